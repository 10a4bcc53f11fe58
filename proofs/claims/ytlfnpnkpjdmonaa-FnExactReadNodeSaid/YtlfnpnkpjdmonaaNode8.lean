import Derived.Test.YtlfnpnkpjdmonaaNode7
set_option linter.unusedVariables false
set_option linter.unusedSimpArgs false
namespace Go.Proofs.Ytlfnpnkpjdmonaa
open Go.RowKit

/-! ### the law's own helpers at nodes -/
structure But (lo hi : Nat) (w w' : World) : Prop where
  os : w'.os = w.os
  tape : w'.tape = w.tape
  output : w'.output = w.output
  size : w.heap.size ≤ w'.heap.size
  block : ∀ k, k < w.heap.size → k < lo ∨ hi ≤ k → w'.heap[k]? = w.heap[k]?
theorem But.refl (lo hi : Nat) (w : World) : But lo hi w w := ⟨rfl, rfl, rfl, Nat.le_refl _, fun _ _ _ => rfl⟩
theorem But.below {lo hi : Nat} {w w1 w2 : World} (h : But lo hi w w1) (hb : Below w1.heap.size w1 w2) : But lo hi w w2 :=
  ⟨hb.os.trans h.os, hb.tape.trans h.tape, hb.output.trans h.output, Nat.le_trans h.size hb.size, fun k hk ho => (hb.block k (Nat.lt_of_lt_of_le hk h.size)).trans (h.block k hk ho)⟩
theorem But.grown {lo hi : Nat} {w w1 w2 : World} {row : Option Nat} (h : But lo hi w w1) (hg : w1.grownBy w2 row) (hr : ∀ k, row = some k → lo ≤ k ∧ k < hi) : But lo hi w w2 :=
  ⟨hg.os.trans h.os, hg.tape.trans h.tape, hg.output.trans h.output, Nat.le_trans h.size hg.size, fun k hk ho => (hg.block k (Nat.lt_of_lt_of_le hk h.size) (fun e => by have := hr k e.symm; omega)).trans (h.block k hk ho)⟩
theorem But.after {lo hi : Nat} {w0 w w1 : World} (h : But lo hi w w1) (hb : Below w0.heap.size w0 w) (hw : w0.heap.size ≤ lo) : Below w0.heap.size w0 w1 :=
  ⟨h.os.trans hb.os, h.tape.trans hb.tape, h.output.trans hb.output, Nat.le_trans hb.size h.size, fun k hk => (h.block k (Nat.lt_of_lt_of_le hk hb.size) (.inl (Nat.lt_of_lt_of_le hk hw))).trans (hb.block k hk)⟩
theorem own_but {lo hi : Nat} {w w1 : World} {base e size n : Nat} {v : Value} {xs : List Value} (h : w.ownsRow base e size v n xs) (hb : But lo hi w w1) (hv : ∀ k, v.ownBlock = some k → k < lo ∨ hi ≤ k) : w1.ownsRow base e size v n xs := by
  refine ⟨h.1, h.2.imp id ?_⟩
  rintro ⟨g, cap, cur, rfl, hg, hh, hr⟩
  exact ⟨g, cap, cur, rfl, hg, (hb.block g (Array.getElem?_eq_some_iff.1 hh).1 (hv g rfl)).trans hh, hr⟩

theorem rd_small (l : List UInt8) : (rdNdAll l).1.l.length ≤ 4 ∧ (rdNdAll l).1.ls.length ≤ 4 ∧ (rdNdAll l).1.ks.length ≤ 4 := by
  unfold rdNdAll
  split
  · exact ⟨by simp [ndZ], by simp [ndZ], by simp [ndZ]⟩
  · unfold rdNd
    cases unsM l with
    | none => exact ⟨by simp [ndZ], by simp [ndZ], by simp [ndZ]⟩
    | some y =>
      cases y with
      | nil => exact ⟨by simp [ndZ], by simp [ndZ], by simp [ndZ]⟩
      | cons a r =>
        simp only []
        split
        · cases full r with
          | none => exact ⟨by simp [ndZ], by simp [ndZ], by simp [ndZ]⟩
          | some xs =>
            simp only []
            split
            · rename_i ho
              cases hd : decide (a = 108) with
              | true =>
                rw [hd] at ho
                unfold okNd at ho
                rw [if_pos rfl] at ho
                simp only [Bool.and_eq_true] at ho
                have h3 := (wle ho.2.1).2
                unfold ndM
                rw [if_pos rfl]
                exact ⟨by simp only []; omega, by simp, by simp⟩
              | false =>
                rw [hd] at ho
                unfold okNd at ho
                rw [if_neg (by simp)] at ho
                simp only [Bool.and_eq_true] at ho
                have h3 := (wle ho.2.1).2
                unfold ndM
                rw [if_neg (by simp)]
                refine ⟨by simp, ?_, ?_⟩
                · simp only []; rw [lsM_len]; omega
                · simp only []; rw [ksM_len]; omega
            · exact ⟨by simp [ndZ], by simp [ndZ], by simp [ndZ]⟩
        · exact ⟨by simp [ndZ], by simp [ndZ], by simp [ndZ]⟩
set_option maxRecDepth 100000 in
set_option maxHeartbeats 1000000 in
theorem eqNode_eq (lf : Bool) (l : List Pr) (ls : List ByteArray) (ks : List Int) (A A' B B' C C' : Option Addr) (a a' b b' c c' : Nat) (w : World) (h1 : Rd w w.heap.size A (flat encP l)) (h1' : Rd w w.heap.size A' (flat encP l)) (h2 : Rd w w.heap.size B (ls.map Value.string)) (h2' : Rd w w.heap.size B' (ls.map Value.string)) (h3 : Rd w w.heap.size C (ks.map ivi)) (h3' : Rd w w.heap.size C' (ks.map ivi)) (hl1 : l.length ≤ 4) (hl2 : ls.length ≤ 4) (hl3 : ks.length ≤ 4) :
    Calls Try.prog 73 #[ndV lf A l.length a B ls.length b C ks.length c, ndV lf A' l.length a' B' ls.length b' C' ks.length c'] w fun e w' => e = .returned (.bool true) ∧ Below w.heap.size w w' := by
  have hbe : Below w.heap.size w ((w.alloc (.cells #[.bool lf, .slice A l.length a, .slice B ls.length b, .slice C ks.length c] 96)).alloc (.cells #[.bool lf, .slice A' l.length a', .slice B' ls.length b', .slice C' ks.length c'] 96)) := by repeat (first | exact Below.refl _ _ | assumption | refine Below.drew ?_ | refine below_drewN ?_ _ | refine Below.setCell ?_ (by first | exact Nat.le_refl _ | exact Below.size (by assumption) | (simp; done) | (simp; omega) | omega) _ | refine Below.alloc ?_ (by first | exact Nat.le_refl _ | exact Below.size (by assumption) | (simp; done) | (simp; omega) | omega) _)
  have HBE := Lib.hid hbe
  have HP := Lib.hid (fun (W : World) (h : Below w.heap.size w W) => eqPairS_eq A A' a a' l W (h1.next h) (h1'.next h) (by simp only [maxLen]; omega))
  have HS := Lib.hid (fun (W : World) (h : Below w.heap.size w W) => eqStringS_any B B' b b' ls ls W (h2.next h) (h2'.next h) (by simp only [maxLen]; omega) (by simp only [maxLen]; omega))
  have HK := Lib.hid (fun (W : World) (h : Below w.heap.size w W) => eqIntS_eq C C' c c' ks W (h3.next h) (h3'.next h) (by omega))
  have hx1 : ((w.alloc (.cells #[.bool lf, .slice A l.length a, .slice B ls.length b, .slice C ks.length c] 96)).alloc (.cells #[.bool lf, .slice A' l.length a', .slice B' ls.length b', .slice C' ks.length c'] 96)).heap[w.heap.size]? = some (.cells #[.bool lf, .slice A l.length a, .slice B ls.length b, .slice C ks.length c] 96 (0, 0)) := (((Below.refl _ _).alloc (Nat.le_refl _) _ : Below (w.alloc (.cells #[.bool lf, .slice A l.length a, .slice B ls.length b, .slice C ks.length c] 96)).heap.size _ _).block _ (by simp)).trans (heap_alloc_new _ _)
  have hx2 : ((w.alloc (.cells #[.bool lf, .slice A l.length a, .slice B ls.length b, .slice C ks.length c] 96)).alloc (.cells #[.bool lf, .slice A' l.length a', .slice B' ls.length b', .slice C' ks.length c'] 96)).heap[w.heap.size + 1]? = some (.cells #[.bool lf, .slice A' l.length a', .slice B' ls.length b', .slice C' ks.length c'] 96 (0, 0)) := by
    have h := heap_alloc_new (w.alloc (.cells #[.bool lf, .slice A l.length a, .slice B ls.length b, .slice C ks.length c] 96)) (.cells #[.bool lf, .slice A' l.length a', .slice B' ls.length b', .slice C' ks.length c'] 96)
    simpa using h
  have HX1 := Lib.hid hx1
  have HX2 := Lib.hid hx2
  have hz : w.heap.size + 2 = ((w.alloc (.cells #[.bool lf, .slice A l.length a, .slice B ls.length b, .slice C ks.length c] 96)).alloc (.cells #[.bool lf, .slice A' l.length a', .slice B' ls.length b', .slice C' ks.length c'] 96)).heap.size := by simp
  have hlf : (lf != lf) = false := by simp
  clear hbe h1 h1' h2 h2' h3 h3' hx1 hx2
  go_enter Try.func73, Try.ntmps73
  go_wp2_with fail
  refine (HP.out _ HBE.out).mono ?_
  rintro e w2 ⟨rfl, hb2⟩
  have HB2 := Lib.hid (below_after HBE.out hb2)
  have hy1 := (hb2.block _ (by omega)).trans HX1.out
  have hy2 := (hb2.block _ (by omega)).trans HX2.out
  have hz2 := hb2.size
  have HY1 := Lib.hid hy1
  have HY2 := Lib.hid hy2
  obtain ⟨j0, j1, j2, j3⟩ := nd_cells hy1
  obtain ⟨k0, k1, k2, k3⟩ := nd_cells hy2
  clear hb2 hy1 hy2
  go_wp2_with fail
  refine (HS.out _ HB2.out).mono ?_
  simp only [decide_true]
  rintro e w3 ⟨rfl, hb3⟩
  have HB3 := Lib.hid (below_after HB2.out hb3)
  clear j0 j1 j2 j3 k0 k1 k2 k3
  obtain ⟨j0, j1, j2, j3⟩ := nd_cells ((hb3.block _ (by omega)).trans HY1.out)
  obtain ⟨k0, k1, k2, k3⟩ := nd_cells ((hb3.block _ (by omega)).trans HY2.out)
  clear hb3
  go_wp2_with fail
  refine (HK.out _ HB3.out).mono ?_
  rintro e w4 ⟨rfl, hb4⟩
  have HB4 := Lib.hid (below_after HB3.out hb4)
  clear hb4
  go_wp2_with fail
  go_ret
  exact ⟨rfl, HB4.out⟩
set_option maxRecDepth 100000 in
set_option maxHeartbeats 1000000 in
theorem markNode_any (lo hi : Nat) (lf : Bool) (n m p : Nat) (xs ys zs : List Value) (A B C : Option Addr) (a b c : Nat) (M : Int) (w : World) (h1 : w.ownsRow lo 82 2 (.slice A n a) n xs) (h2 : w.ownsRow lo 9 1 (.slice B m b) m ys) (h3 : w.ownsRow lo 3 1 (.slice C p c) p zs)
    (i1 : ∀ k, (Value.slice A n a).ownBlock = some k → lo ≤ k ∧ k < hi) (i2 : ∀ k, (Value.slice B m b).ownBlock = some k → lo ≤ k ∧ k < hi) (i3 : ∀ k, (Value.slice C p c).ownBlock = some k → lo ≤ k ∧ k < hi) (hl1 : n ≤ 4) (hl2 : m ≤ 4) (hl3 : p ≤ 4) (hM : M = 1 + 2 * n + m + p) :
    Calls Try.prog 74 #[ndV lf A n a B m b C p c, .int .i64 1] w fun e w' => e = .returned (.int .i64 M) ∧ (∃ cs, w'.ownsRow lo 82 2 (.slice A n a) n cs ∧ Marked2 1 n cs) ∧ w'.ownsRow lo 9 1 (.slice B m b) m (marks (1 + 2 * n) m) ∧ (∃ ds, w'.ownsRow lo 3 1 (.slice C p c) p ds ∧ Marked1 (1 + 2 * n + m) p ds) ∧ But lo hi w w' := by
  have hbe : Below w.heap.size w (w.alloc (.cells #[.bool lf, .slice A n a, .slice B m b, .slice C p c] 96)) := by repeat (first | exact Below.refl _ _ | assumption | refine Below.drew ?_ | refine below_drewN ?_ _ | refine Below.setCell ?_ (by first | exact Nat.le_refl _ | exact Below.size (by assumption) | (simp; done) | (simp; omega) | omega) _ | refine Below.alloc ?_ (by first | exact Nat.le_refl _ | exact Below.size (by assumption) | (simp; done) | (simp; omega) | omega) _)
  have HX : Hid ((w.alloc (.cells #[.bool lf, .slice A n a, .slice B m b, .slice C p c] 96)).heap[w.heap.size]? = some (.cells #[.bool lf, .slice A n a, .slice B m b, .slice C p c] 96 (0, 0))) := heap_alloc_new _ _
  have hsz : w.heap.size < (w.alloc (.cells #[.bool lf, .slice A n a, .slice B m b, .slice C p c] 96)).heap.size := by simp
  have HO1 := Lib.hid (own_below h1 hbe)
  have HO2 := Lib.hid (own_below h2 hbe)
  have HO3 := Lib.hid (own_below h3 hbe)
  have HI1 := Lib.hid i1
  have HI2 := Lib.hid i2
  have HI3 := Lib.hid i3
  have HU := Lib.hid ((But.refl lo hi w).below hbe)
  have HM := Lib.hid hM
  clear hbe h1 h2 h3 i1 i2 i3 hM
  go_enter Try.func74, Try.ntmps74
  go_wp2_with fail
  refine (markPairS_any lo _ n xs 1 _ HO1.out (by omega) (by omega) (by omega)).mono ?_
  rintro e w2 ⟨rfl, ⟨cs, hp2, hm2⟩, hg2⟩
  have HX2 := Lib.hid ((hg2.block _ hsz (fun e => own_ne_blk' HO1.out HX.out (by decide) e.symm)).trans HX.out)
  have hsz2 : w.heap.size < w2.heap.size := Nat.lt_of_lt_of_le hsz hg2.size
  have HS2 := Lib.hid (kept_ne HO2.out HO1.out (by decide) hg2)
  have HK2 := Lib.hid (kept_ne HO3.out HO1.out (by decide) hg2)
  have HP2 := Lib.hid hp2
  have HM2 := Lib.hid hm2
  have HU2 := Lib.hid (HU.out.grown hg2 HI1.out)
  obtain ⟨k0, k1, k2, k3⟩ := nd_cells HX2.out
  clear hp2 hm2 hg2
  go_wp2_with fail
  refine (markStringS_any lo _ m ys (1 + 2 * n) _ HS2.out (by omega) (by omega) (by omega)).mono ?_
  rintro e w3 ⟨rfl, hs3, hg3⟩
  have HX3 := Lib.hid ((hg3.block _ hsz2 (fun e => own_ne_blk' HS2.out HX2.out (by decide) e.symm)).trans HX2.out)
  have HP3 := Lib.hid (kept_ne HP2.out HS2.out (by decide) hg3)
  have HK3 := Lib.hid (kept_ne HK2.out HS2.out (by decide) hg3)
  have HS3 := Lib.hid hs3
  have HU3 := Lib.hid (HU2.out.grown hg3 HI2.out)
  clear k0 k1 k2 k3 hs3 hg3
  obtain ⟨k0, k1, k2, k3⟩ := nd_cells HX3.out
  go_wp2_with fail
  refine (markIntS_any lo _ p zs (1 + 2 * n + m) _ HK3.out (by omega) (by omega) (by omega)).mono ?_
  rintro e w4 ⟨rfl, ⟨ds, hk4, hm4⟩, hg4⟩
  have HP4 := Lib.hid (kept_ne HP3.out HK3.out (by decide) hg4)
  have HS4 := Lib.hid (kept_ne HS3.out HK3.out (by decide) hg4)
  have HK4 := Lib.hid (And.intro hk4 hm4)
  have HU4 := Lib.hid (HU3.out.grown hg4 HI3.out)
  clear hk4 hm4 hg4
  go_wp2_with fail
  go_ret
  exact ⟨ret_i (by rw [HM.out]), ⟨cs, HP4.out, HM2.out⟩, HS4.out, ⟨ds, HK4.out.1, HK4.out.2⟩, HU4.out⟩
set_option maxRecDepth 100000 in
set_option maxHeartbeats 1000000 in
theorem heldNode_any (lo : Nat) (lf : Bool) (n m p : Nat) (cs ds : List Value) (A B C : Option Addr) (a b c : Nat) (M : Int) (w : World) (h1 : w.ownsRow lo 82 2 (.slice A n a) n cs) (h2 : w.ownsRow lo 9 1 (.slice B m b) m (marks (1 + 2 * n) m)) (h3 : w.ownsRow lo 3 1 (.slice C p c) p ds) (m1 : Marked2 1 n cs) (m3 : Marked1 (1 + 2 * n + m) p ds) (hl1 : n ≤ 4) (hl2 : m ≤ 4) (hl3 : p ≤ 4) (hM : M = 1 + 2 * n + m + p) :
    Calls Try.prog 75 #[ndV lf A n a B m b C p c, .int .i64 1] w fun e w' => e = .returned (.int .i64 M) ∧ Below w.heap.size w w' := by
  have hbe : Below w.heap.size w (w.alloc (.cells #[.bool lf, .slice A n a, .slice B m b, .slice C p c] 96)) := by repeat (first | exact Below.refl _ _ | assumption | refine Below.drew ?_ | refine below_drewN ?_ _ | refine Below.setCell ?_ (by first | exact Nat.le_refl _ | exact Below.size (by assumption) | (simp; done) | (simp; omega) | omega) _ | refine Below.alloc ?_ (by first | exact Nat.le_refl _ | exact Below.size (by assumption) | (simp; done) | (simp; omega) | omega) _)
  have HBE := Lib.hid hbe
  have HX : Hid ((w.alloc (.cells #[.bool lf, .slice A n a, .slice B m b, .slice C p c] 96)).heap[w.heap.size]? = some (.cells #[.bool lf, .slice A n a, .slice B m b, .slice C p c] 96 (0, 0))) := heap_alloc_new _ _
  have hsz : w.heap.size < (w.alloc (.cells #[.bool lf, .slice A n a, .slice B m b, .slice C p c] 96)).heap.size := by simp
  have HO1 := Lib.hid (own_below h1 hbe)
  have HO2 := Lib.hid (own_below h2 hbe)
  have HO3 := Lib.hid (own_below h3 hbe)
  have HM1 := Lib.hid m1
  have HM3 := Lib.hid m3
  have HM := Lib.hid hM
  clear hbe h1 h2 h3 m1 m3 hM
  go_enter Try.func75, Try.ntmps75
  go_wp2_with fail
  refine (heldPairS_any lo _ n cs 1 _ HO1.out HM1.out (by omega) (by omega) (by omega)).mono ?_
  rintro e w2 ⟨rfl, hb2⟩
  have HX2 := Lib.hid ((hb2.block _ hsz).trans HX.out)
  have HS2 := Lib.hid (own_below HO2.out hb2)
  have HK2 := Lib.hid (own_below HO3.out hb2)
  have HB2 := Lib.hid (below_after HBE.out hb2)
  have hsz2 : w.heap.size < w2.heap.size := Nat.lt_of_lt_of_le hsz hb2.size
  obtain ⟨k0, k1, k2, k3⟩ := nd_cells HX2.out
  clear hb2
  go_wp2_with fail
  refine (heldStringS_any B b m (1 + 2 * n) _ (Rd.own HS2.out) (by omega) (by omega) (by omega)).mono ?_
  rintro e w3 ⟨rfl, hb3⟩
  have HX3 := Lib.hid ((hb3.block _ hsz2).trans HX2.out)
  have HK3 := Lib.hid (own_below HK2.out hb3)
  have HB3 := Lib.hid (below_after HB2.out hb3)
  clear k0 k1 k2 k3 hb3
  obtain ⟨k0, k1, k2, k3⟩ := nd_cells HX3.out
  go_wp2_with fail
  refine (heldIntS_any lo _ p ds (1 + 2 * n + m) _ HK3.out HM3.out (by omega) (by omega) (by omega)).mono ?_
  rintro e w4 ⟨rfl, hb4⟩
  have HB4 := Lib.hid (below_after HB3.out hb4)
  clear hb4
  go_wp2_with fail
  go_ret
  exact ⟨ret_i (by rw [HM.out]), HB4.out⟩
end Go.Proofs.Ytlfnpnkpjdmonaa
