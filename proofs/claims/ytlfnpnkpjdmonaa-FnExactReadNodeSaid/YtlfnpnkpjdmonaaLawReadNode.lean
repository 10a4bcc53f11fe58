/- At any bytes, the program's ReadNode answers as the reference's: the same node, the same code; it writes into no argument, and its answers are new memory. There are no conditions. -/
import Derived.Test.YtlfnpnkpjdmonaaFacts
import Derived.Test.YtlfnpnkpjdmonaaOpen
import Derived.Test.YtlfnpnkpjdmonaaNode8
import Derived.ProofKit
import Derived.OpenShut
import Derived.ShutString
import Derived.ChangeOld
import Derived.Carry
import Derived.SizedLaws
set_option linter.unusedVariables false
set_option linter.unusedSimpArgs false
namespace Go.Proofs.Ytlfnpnkpjdmonaa.lawReadNode
open Go.ChangeShapes Go.WideShapes Go.ChangeAt Go.RowKit Go.Joins
open Go.ChangeMaps (open_string shut_string)

theorem own_ne_blk {w : World} {base e size n g T : Nat} {v : Value} {xs : List Value} {cs : Array Value} {fr : Nat × Nat} (h : w.ownsRow base e size v n xs) (hg : w.heap[g]? = some (.cells cs T fr)) (hT : T ≠ e) : v.ownBlock ≠ some g := own_ne_blk' h hg hT
theorem eqBytes {b1 b2 : Nat} {u v : Value} {xs : List UInt8} {w : World} (hu : w.ownsRow b1 5 1 u xs.length (xs.map bv)) (hv : w.ownsRow b2 5 1 v xs.length (xs.map bv)) (hl : xs.length ≤ maxLen) :
    Calls Try.prog 34 #[u, v] w fun e w' => e = .returned (.bool true) ∧ Below w.heap.size w w' := by
  obtain ⟨A, c, rfl, _⟩ := own_form hu
  obtain ⟨B, d, rfl, _⟩ := own_form hv
  exact eqByteS_eq A B c d xs w (Rd.own hu) (Rd.own hv) hl
/-- what a ReadNode leaves, the parts being those of rdNdAll of the bytes -/
def RN5 (lf : Bool) (l : List Pr) (ls : List ByteArray) (ks : List Int) (er : Int) (w : World) (e : Ending) (w' : World) : Prop := ∃ (A : Option Addr) (a : Nat) (B : Option Addr) (b : Nat) (C : Option Addr) (c : Nat), e = .returned (.tuple #[ndV lf A l.length a B ls.length b C ks.length c, .int .i64 er]) ∧ w'.ownsRow w.heap.size 82 2 (.slice A l.length a) l.length (flat encP l) ∧ w'.ownsRow w.heap.size 9 1 (.slice B ls.length b) ls.length (ls.map Value.string) ∧ w'.ownsRow w.heap.size 3 1 (.slice C ks.length c) ks.length (ks.map ivi) ∧ Below w.heap.size w w'
theorem rn_of {xs : List UInt8} {lf : Bool} {l : List Pr} {ls : List ByteArray} {ks : List Int} {er : Int} (hq : rdNdAll xs = (⟨lf, l, ls, ks⟩, er)) {w w' : World} {e : Ending} (h : RNPost (rdNdAll xs) w e w') : RN5 lf l ls ks er w e w' := by
  rw [hq] at h
  obtain ⟨A, a, B, b, C, c, e1, e2, e3⟩ := h
  exact ⟨A, a, B, b, C, c, e1, e2.p, e2.s, e2.k, e3⟩
theorem specRN {base : Nat} {v : Value} {xs : List UInt8} {w : World} {lf : Bool} {l : List Pr} {ls : List ByteArray} {ks : List Int} {er : Int} (hq : rdNdAll xs = (⟨lf, l, ls, ks⟩, er)) (hv : w.ownsRow base 5 1 v xs.length (xs.map bv)) : Calls Try.prog 71 #[v] w (RN5 lf l ls ks er w) := by
  obtain ⟨A, c, rfl, _⟩ := own_form hv
  exact (specReadNode_any A c xs w (Rd.own hv)).mono fun _ _ h => rn_of hq h
theorem implRN {base : Nat} {v : Value} {xs : List UInt8} {w : World} {lf : Bool} {l : List Pr} {ls : List ByteArray} {ks : List Int} {er : Int} (hq : rdNdAll xs = (⟨lf, l, ls, ks⟩, er)) (hv : w.ownsRow base 5 1 v xs.length (xs.map bv)) : Calls Try.prog 72 #[v] w (RN5 lf l ls ks er w) := by
  obtain ⟨A, c, rfl, _⟩ := own_form hv
  exact (implReadNode_any A c xs w (Rd.own hv)).mono fun _ _ h => rn_of hq h
theorem eqNd {lf : Bool} {l : List Pr} {ls : List ByteArray} {ks : List Int} {A A' B B' C C' : Option Addr} {a a' b b' c c' n1 n2 n3 n4 n5 n6 : Nat} {w : World} (h1 : w.ownsRow n1 82 2 (.slice A l.length a) l.length (flat encP l)) (h2 : w.ownsRow n2 9 1 (.slice B ls.length b) ls.length (ls.map Value.string)) (h3 : w.ownsRow n3 3 1 (.slice C ks.length c) ks.length (ks.map ivi))
    (h1' : w.ownsRow n4 82 2 (.slice A' l.length a') l.length (flat encP l)) (h2' : w.ownsRow n5 9 1 (.slice B' ls.length b') ls.length (ls.map Value.string)) (h3' : w.ownsRow n6 3 1 (.slice C' ks.length c') ks.length (ks.map ivi)) (hl : l.length ≤ 4 ∧ ls.length ≤ 4 ∧ ks.length ≤ 4) :
    Calls Try.prog 73 #[ndV lf A l.length a B ls.length b C ks.length c, ndV lf A' l.length a' B' ls.length b' C' ks.length c'] w fun e w' => e = .returned (.bool true) ∧ Below w.heap.size w w' :=
  eqNode_eq lf l ls ks A A' B B' C C' a a' b b' c c' w (Rd.own h1) (Rd.own h1') (Rd.own h2) (Rd.own h2') (Rd.own h3) (Rd.own h3') hl.1 hl.2.1 hl.2.2

set_option maxRecDepth 100000 in
set_option maxHeartbeats 4000000 in
theorem law_any (A : Option Addr) (c : Nat) (xs : List UInt8) (w : World) (hx : Rd w w.heap.size A (xs.map bv)) (hm : xs.length ≤ maxLen) :
    Calls Try.prog 13 #[.slice A xs.length c] w fun e w' => e = .returned (.bool true) ∧ Below w.heap.size w w' := by
  unfold maxLen at hm
  by_cases hbig : 1048576 < xs.length
  · go_enter Try.func13, Try.ntmps13
    go_wp2
    go_ret
    exact ⟨rfl, Below.refl _ _⟩
  have HA := Lib.hid hx
  clear hx
  have hl := rd_small xs
  generalize hq : rdNdAll xs = q at *
  obtain ⟨⟨lf, l, ls, ks⟩, er⟩ := q
  have HQ := Lib.hid hq
  have HL : Hid (l.length ≤ 4 ∧ ls.length ≤ 4 ∧ ks.length ≤ 4) := hl
  obtain ⟨M, hM⟩ : ∃ M : Int, M = 1 + 2 * (l.length : Int) + (ls.length : Int) + (ks.length : Int) := ⟨_, rfl⟩
  have HM := Lib.hid hM
  have hM1 : decide (M < 0) = false := by rw [decide_eq_false_iff_not]; omega
  have hM2 : ¬ M < 0 := by omega
  have hM3 : (M != M) = false := by simp
  have her : (er != er) = false := by simp
  clear hl hq hM
  go_enter Try.func13, Try.ntmps13
  go_wp2_with fail
  refine (toByteS_any _ _ xs _ (HA.out.next (Below.refl _ _)) (by omega)).mono ?_
  rintro e w1 ⟨v1, rfl, ho1, hb1⟩
  have hZ1 : Below w.heap.size w w1 := below_after (Below.refl _ _) hb1
  have hs1 : w.heap.size ≤ w1.heap.size := hb1.size
  have HZ1 := Lib.hid hZ1
  have HB1 := Lib.hid hb1
  clear hZ1 hb1
  have HOX := Lib.hid ho1
  have HIX : Hid (∀ k, (v1).ownBlock = some k → w.heap.size ≤ k ∧ k < w1.heap.size) := fun k hk => HOX.out.lt k hk
  clear ho1
  go_wp2_with fail
  refine (specRN HQ.out HOX.out).mono ?_
  rintro e w2 ⟨QA2, qa2, QB2, qb2, QC2, qc2, rfl, hp2, hr2, hk2, hb2⟩
  have hZ2 : Below w.heap.size w w2 := below_after HZ1.out hb2
  have hs2 : w1.heap.size ≤ w2.heap.size := hb2.size
  have HZ2 := Lib.hid hZ2
  have HB2 := Lib.hid hb2
  clear hZ2 hb2
  have HOSP := Lib.hid hp2
  have HISP : Hid (∀ k, (Value.slice QA2 l.length qa2).ownBlock = some k → w1.heap.size ≤ k ∧ k < w2.heap.size) := fun k hk => HOSP.out.lt k hk
  clear hp2
  have HOSS := Lib.hid hr2
  have HISS : Hid (∀ k, (Value.slice QB2 ls.length qb2).ownBlock = some k → w1.heap.size ≤ k ∧ k < w2.heap.size) := fun k hk => HOSS.out.lt k hk
  clear hr2
  have HOSK := Lib.hid hk2
  have HISK : Hid (∀ k, (Value.slice QC2 ks.length qc2).ownBlock = some k → w1.heap.size ≤ k ∧ k < w2.heap.size) := fun k hk => HOSK.out.lt k hk
  clear hk2
  obtain ⟨w3, hw3⟩ : ∃ W : World, W = w2.alloc (.cells #[.bool lf, .slice QA2 l.length qa2, .slice QB2 ls.length qb2, .slice QC2 ks.length qc2] 96) := ⟨_, rfl⟩
  have hb3 : Below w2.heap.size w2 w3 := by rw [hw3]; exact (Below.refl _ _).alloc (Nat.le_refl _) _
  have hx3 : w3.heap[w2.heap.size]? = some (.cells #[.bool lf, .slice QA2 l.length qa2, .slice QB2 ls.length qb2, .slice QC2 ks.length qc2] 96 (0, 0)) := by rw [hw3]; exact heap_alloc_new _ _
  have hZ3 : Below w.heap.size w w3 := below_after HZ2.out hb3
  have hs3 : w2.heap.size < w3.heap.size := by rw [hw3]; simp
  have HZ3 := Lib.hid hZ3
  have HB3 := Lib.hid hb3
  have HW3 := Lib.hid hw3
  have HXP := Lib.hid hx3
  clear hZ3 hb3 hw3 hx3
  go_wp2_with fail
  rw [← HW3.out]
  refine (toByteS_any _ _ xs _ (HA.out.next HZ3.out) (by omega)).mono ?_
  rintro e w4 ⟨v4, rfl, ho4, hb4⟩
  have hZ4 : Below w.heap.size w w4 := below_after HZ3.out hb4
  have hs4 : w3.heap.size ≤ w4.heap.size := hb4.size
  have HZ4 := Lib.hid hZ4
  have HB4 := Lib.hid hb4
  clear hZ4 hb4
  have HOY := Lib.hid ho4
  have HIY : Hid (∀ k, (v4).ownBlock = some k → w3.heap.size ≤ k ∧ k < w4.heap.size) := fun k hk => HOY.out.lt k hk
  clear ho4
  go_wp2_with fail
  refine (implRN HQ.out HOY.out).mono ?_
  rintro e w5 ⟨QA5, qa5, QB5, qb5, QC5, qc5, rfl, hp5, hr5, hk5, hb5⟩
  have hZ5 : Below w.heap.size w w5 := below_after HZ4.out hb5
  have hs5 : w4.heap.size ≤ w5.heap.size := hb5.size
  have HZ5 := Lib.hid hZ5
  have HB5 := Lib.hid hb5
  clear hZ5 hb5
  have HOGP := Lib.hid hp5
  have HIGP : Hid (∀ k, (Value.slice QA5 l.length qa5).ownBlock = some k → w4.heap.size ≤ k ∧ k < w5.heap.size) := fun k hk => HOGP.out.lt k hk
  clear hp5
  have HOGS := Lib.hid hr5
  have HIGS : Hid (∀ k, (Value.slice QB5 ls.length qb5).ownBlock = some k → w4.heap.size ≤ k ∧ k < w5.heap.size) := fun k hk => HOGS.out.lt k hk
  clear hr5
  have HOGK := Lib.hid hk5
  have HIGK : Hid (∀ k, (Value.slice QC5 ks.length qc5).ownBlock = some k → w4.heap.size ≤ k ∧ k < w5.heap.size) := fun k hk => HOGK.out.lt k hk
  clear hk5
  obtain ⟨w6, hw6⟩ : ∃ W : World, W = w5.alloc (.cells #[.bool lf, .slice QA5 l.length qa5, .slice QB5 ls.length qb5, .slice QC5 ks.length qc5] 96) := ⟨_, rfl⟩
  have hb6 : Below w5.heap.size w5 w6 := by rw [hw6]; exact (Below.refl _ _).alloc (Nat.le_refl _) _
  have hx6 : w6.heap[w5.heap.size]? = some (.cells #[.bool lf, .slice QA5 l.length qa5, .slice QB5 ls.length qb5, .slice QC5 ks.length qc5] 96 (0, 0)) := by rw [hw6]; exact heap_alloc_new _ _
  have hZ6 : Below w.heap.size w w6 := below_after HZ5.out hb6
  have hs6 : w5.heap.size < w6.heap.size := by rw [hw6]; simp
  have HZ6 := Lib.hid hZ6
  have HB6 := Lib.hid hb6
  have HW6 := Lib.hid hw6
  have HXQ := Lib.hid hx6
  clear hZ6 hb6 hw6 hx6
  obtain ⟨cQ0, cQ1, cQ2, cQ3⟩ := nd_cells HXQ.out
  rw [HW6.out] at cQ0 cQ1 cQ2 cQ3
  obtain ⟨cP0, cP1, cP2, cP3⟩ := nd_cells ((HB6.out.block _ (by omega)).trans ((HB5.out.block _ (by omega)).trans ((HB4.out.block _ (by omega)).trans HXP.out)))
  rw [HW6.out] at cP0 cP1 cP2 cP3
  go_wp2_with fail
  rw [← HW6.out]
  clear cQ0 cQ1 cQ2 cQ3 cP0 cP1 cP2 cP3
  refine (eqNd (own_below HOGP.out HB6.out) (own_below HOGS.out HB6.out) (own_below HOGK.out HB6.out) (own_below (own_below (own_below (own_below HOSP.out HB3.out) HB4.out) HB5.out) HB6.out) (own_below (own_below (own_below (own_below HOSS.out HB3.out) HB4.out) HB5.out) HB6.out) (own_below (own_below (own_below (own_below HOSK.out HB3.out) HB4.out) HB5.out) HB6.out) HL.out).mono ?_
  rintro e w7 ⟨rfl, hb7⟩
  have hZ7 : Below w.heap.size w w7 := below_after HZ6.out hb7
  have hs7 : w6.heap.size ≤ w7.heap.size := hb7.size
  have HZ7 := Lib.hid hZ7
  have HB7 := Lib.hid hb7
  clear hZ7 hb7
  go_wp2_with fail
  refine (toByteS_any _ _ xs _ (HA.out.next HZ7.out) (by omega)).mono ?_
  rintro e w8 ⟨v8, rfl, ho8, hb8⟩
  have hZ8 : Below w.heap.size w w8 := below_after HZ7.out hb8
  have hs8 : w7.heap.size ≤ w8.heap.size := hb8.size
  have HZ8 := Lib.hid hZ8
  have HB8 := Lib.hid hb8
  clear hZ8 hb8
  have HOZ := Lib.hid ho8
  have HIZ : Hid (∀ k, (v8).ownBlock = some k → w7.heap.size ≤ k ∧ k < w8.heap.size) := fun k hk => HOZ.out.lt k hk
  clear ho8
  go_wp2_with fail
  refine (eqBytes (own_below (own_below (own_below (own_below HOY.out HB5.out) HB6.out) HB7.out) HB8.out) HOZ.out (by simp only [maxLen]; omega)).mono ?_
  rintro e w9 ⟨rfl, hb9⟩
  have hZ9 : Below w.heap.size w w9 := below_after HZ8.out hb9
  have hs9 : w8.heap.size ≤ w9.heap.size := hb9.size
  have HZ9 := Lib.hid hZ9
  have HB9 := Lib.hid hb9
  clear hZ9 hb9
  go_wp2_with fail
  refine (markByteS_any _ _ _ _ 1 _ (own_below (own_below (own_below (own_below (own_below HOY.out HB5.out) HB6.out) HB7.out) HB8.out) HB9.out) (by omega) (by omega) (by omega)).mono ?_
  rintro e w10 ⟨rfl, hb10⟩
  have hZ10 : Below w.heap.size w w10 := below_grown_own HZ9.out hb10 HIY.out (by omega)
  have hs10 : w9.heap.size ≤ w10.heap.size := hb10.size
  have HZ10 := Lib.hid hZ10
  have HB10 := Lib.hid hb10
  clear hZ10 hb10
  obtain ⟨cQ0, cQ1, cQ2, cQ3⟩ := nd_cells ((HB10.out.block _ (by omega) (fun e => own_ne_blk (own_below (own_below (own_below (own_below (own_below HOY.out HB5.out) HB6.out) HB7.out) HB8.out) HB9.out) ((HB9.out.block _ (by omega)).trans ((HB8.out.block _ (by omega)).trans ((HB7.out.block _ (by omega)).trans HXQ.out))) (by decide) e.symm)).trans ((HB9.out.block _ (by omega)).trans ((HB8.out.block _ (by omega)).trans ((HB7.out.block _ (by omega)).trans HXQ.out))))
  obtain ⟨cP0, cP1, cP2, cP3⟩ := nd_cells ((HB10.out.block _ (by omega) (fun e => own_ne_blk (own_below (own_below (own_below (own_below (own_below HOY.out HB5.out) HB6.out) HB7.out) HB8.out) HB9.out) ((HB9.out.block _ (by omega)).trans ((HB8.out.block _ (by omega)).trans ((HB7.out.block _ (by omega)).trans ((HB6.out.block _ (by omega)).trans ((HB5.out.block _ (by omega)).trans ((HB4.out.block _ (by omega)).trans HXP.out)))))) (by decide) e.symm)).trans ((HB9.out.block _ (by omega)).trans ((HB8.out.block _ (by omega)).trans ((HB7.out.block _ (by omega)).trans ((HB6.out.block _ (by omega)).trans ((HB5.out.block _ (by omega)).trans ((HB4.out.block _ (by omega)).trans HXP.out)))))))
  go_wp2_with fail
  clear cQ0 cQ1 cQ2 cQ3 cP0 cP1 cP2 cP3
  refine (eqNd ((own_below (own_below (own_below (own_below HOGP.out HB6.out) HB7.out) HB8.out) HB9.out).kept HB10.out (ne_blocks HIGP.out HIY.out (by omega))) ((own_below (own_below (own_below (own_below HOGS.out HB6.out) HB7.out) HB8.out) HB9.out).kept HB10.out (ne_blocks HIGS.out HIY.out (by omega))) ((own_below (own_below (own_below (own_below HOGK.out HB6.out) HB7.out) HB8.out) HB9.out).kept HB10.out (ne_blocks HIGK.out HIY.out (by omega))) ((own_below (own_below (own_below (own_below (own_below (own_below (own_below HOSP.out HB3.out) HB4.out) HB5.out) HB6.out) HB7.out) HB8.out) HB9.out).kept HB10.out (ne_blocks HISP.out HIY.out (by omega))) ((own_below (own_below (own_below (own_below (own_below (own_below (own_below HOSS.out HB3.out) HB4.out) HB5.out) HB6.out) HB7.out) HB8.out) HB9.out).kept HB10.out (ne_blocks HISS.out HIY.out (by omega))) ((own_below (own_below (own_below (own_below (own_below (own_below (own_below HOSK.out HB3.out) HB4.out) HB5.out) HB6.out) HB7.out) HB8.out) HB9.out).kept HB10.out (ne_blocks HISK.out HIY.out (by omega))) HL.out).mono ?_
  rintro e w11 ⟨rfl, hb11⟩
  have hZ11 : Below w.heap.size w w11 := below_after HZ10.out hb11
  have hs11 : w10.heap.size ≤ w11.heap.size := hb11.size
  have HZ11 := Lib.hid hZ11
  have HB11 := Lib.hid hb11
  clear hZ11 hb11
  obtain ⟨cQ0, cQ1, cQ2, cQ3⟩ := nd_cells ((HB11.out.block _ (by omega)).trans ((HB10.out.block _ (by omega) (fun e => own_ne_blk (own_below (own_below (own_below (own_below (own_below HOY.out HB5.out) HB6.out) HB7.out) HB8.out) HB9.out) ((HB9.out.block _ (by omega)).trans ((HB8.out.block _ (by omega)).trans ((HB7.out.block _ (by omega)).trans HXQ.out))) (by decide) e.symm)).trans ((HB9.out.block _ (by omega)).trans ((HB8.out.block _ (by omega)).trans ((HB7.out.block _ (by omega)).trans HXQ.out)))))
  go_wp2_with fail
  clear cQ0 cQ1 cQ2 cQ3
  refine (markNode_any w4.heap.size w5.heap.size lf _ _ _ _ _ _ _ _ _ _ _ _ M _ (own_below ((own_below (own_below (own_below (own_below HOGP.out HB6.out) HB7.out) HB8.out) HB9.out).kept HB10.out (ne_blocks HIGP.out HIY.out (by omega))) HB11.out) (own_below ((own_below (own_below (own_below (own_below HOGS.out HB6.out) HB7.out) HB8.out) HB9.out).kept HB10.out (ne_blocks HIGS.out HIY.out (by omega))) HB11.out) (own_below ((own_below (own_below (own_below (own_below HOGK.out HB6.out) HB7.out) HB8.out) HB9.out).kept HB10.out (ne_blocks HIGK.out HIY.out (by omega))) HB11.out) HIGP.out HIGS.out HIGK.out HL.out.1 HL.out.2.1 HL.out.2.2 HM.out).mono ?_
  rintro e w12 ⟨rfl, ⟨cs12, hp12, hm12⟩, hr12, ⟨ds12, hk12, hn12⟩, hb12⟩
  have hZ12 : Below w.heap.size w w12 := hb12.after HZ11.out (by omega)
  have hs12 : w11.heap.size ≤ w12.heap.size := hb12.size
  have HZ12 := Lib.hid hZ12
  have HB12 := Lib.hid hb12
  clear hZ12 hb12
  have HMP := Lib.hid hm12
  have HMK := Lib.hid hn12
  clear hm12 hn12
  have HOMP := Lib.hid hp12
  clear hp12
  have HOMS := Lib.hid hr12
  clear hr12
  have HOMK := Lib.hid hk12
  clear hk12
  obtain ⟨cQ0, cQ1, cQ2, cQ3⟩ := nd_cells ((HB12.out.block _ (by omega) (by omega)).trans ((HB11.out.block _ (by omega)).trans ((HB10.out.block _ (by omega) (fun e => own_ne_blk (own_below (own_below (own_below (own_below (own_below HOY.out HB5.out) HB6.out) HB7.out) HB8.out) HB9.out) ((HB9.out.block _ (by omega)).trans ((HB8.out.block _ (by omega)).trans ((HB7.out.block _ (by omega)).trans HXQ.out))) (by decide) e.symm)).trans ((HB9.out.block _ (by omega)).trans ((HB8.out.block _ (by omega)).trans ((HB7.out.block _ (by omega)).trans HXQ.out))))))
  go_wp2_with fail
  clear cQ0 cQ1 cQ2 cQ3
  refine (heldNode_any _ lf _ _ _ _ _ _ _ _ _ _ _ M _ HOMP.out HOMS.out HOMK.out HMP.out HMK.out HL.out.1 HL.out.2.1 HL.out.2.2 HM.out).mono ?_
  rintro e w13 ⟨rfl, hb13⟩
  have hZ13 : Below w.heap.size w w13 := below_after HZ12.out hb13
  have hs13 : w12.heap.size ≤ w13.heap.size := hb13.size
  have HZ13 := Lib.hid hZ13
  have HB13 := Lib.hid hb13
  clear hZ13 hb13
  go_wp2_with fail
  refine (toByteS_any _ _ xs _ (HA.out.next HZ13.out) (by omega)).mono ?_
  rintro e w14 ⟨v14, rfl, ho14, hb14⟩
  have hZ14 : Below w.heap.size w w14 := below_after HZ13.out hb14
  have hs14 : w13.heap.size ≤ w14.heap.size := hb14.size
  have HZ14 := Lib.hid hZ14
  have HB14 := Lib.hid hb14
  clear hZ14 hb14
  have HOU := Lib.hid ho14
  have HIU : Hid (∀ k, (v14).ownBlock = some k → w13.heap.size ≤ k ∧ k < w14.heap.size) := fun k hk => HOU.out.lt k hk
  clear ho14
  go_wp2_with fail
  refine (implRN HQ.out HOU.out).mono ?_
  rintro e w15 ⟨QA15, qa15, QB15, qb15, QC15, qc15, rfl, hp15, hr15, hk15, hb15⟩
  have hZ15 : Below w.heap.size w w15 := below_after HZ14.out hb15
  have hs15 : w14.heap.size ≤ w15.heap.size := hb15.size
  have HZ15 := Lib.hid hZ15
  have HB15 := Lib.hid hb15
  clear hZ15 hb15
  have HOHP := Lib.hid hp15
  have HIHP : Hid (∀ k, (Value.slice QA15 l.length qa15).ownBlock = some k → w14.heap.size ≤ k ∧ k < w15.heap.size) := fun k hk => HOHP.out.lt k hk
  clear hp15
  have HOHS := Lib.hid hr15
  have HIHS : Hid (∀ k, (Value.slice QB15 ls.length qb15).ownBlock = some k → w14.heap.size ≤ k ∧ k < w15.heap.size) := fun k hk => HOHS.out.lt k hk
  clear hr15
  have HOHK := Lib.hid hk15
  have HIHK : Hid (∀ k, (Value.slice QC15 ks.length qc15).ownBlock = some k → w14.heap.size ≤ k ∧ k < w15.heap.size) := fun k hk => HOHK.out.lt k hk
  clear hk15
  obtain ⟨w16, hw16⟩ : ∃ W : World, W = w15.alloc (.cells #[.bool lf, .slice QA15 l.length qa15, .slice QB15 ls.length qb15, .slice QC15 ks.length qc15] 96) := ⟨_, rfl⟩
  have hb16 : Below w15.heap.size w15 w16 := by rw [hw16]; exact (Below.refl _ _).alloc (Nat.le_refl _) _
  have hx16 : w16.heap[w15.heap.size]? = some (.cells #[.bool lf, .slice QA15 l.length qa15, .slice QB15 ls.length qb15, .slice QC15 ks.length qc15] 96 (0, 0)) := by rw [hw16]; exact heap_alloc_new _ _
  have hZ16 : Below w.heap.size w w16 := below_after HZ15.out hb16
  have hs16 : w15.heap.size < w16.heap.size := by rw [hw16]; simp
  have HZ16 := Lib.hid hZ16
  have HB16 := Lib.hid hb16
  have HW16 := Lib.hid hw16
  have HXR := Lib.hid hx16
  clear hZ16 hb16 hw16 hx16
  obtain ⟨cR0, cR1, cR2, cR3⟩ := nd_cells HXR.out
  rw [HW16.out] at cR0 cR1 cR2 cR3
  obtain ⟨cP0, cP1, cP2, cP3⟩ := nd_cells ((HB16.out.block _ (by omega)).trans ((HB15.out.block _ (by omega)).trans ((HB14.out.block _ (by omega)).trans ((HB13.out.block _ (by omega)).trans ((HB12.out.block _ (by omega) (by omega)).trans ((HB11.out.block _ (by omega)).trans ((HB10.out.block _ (by omega) (fun e => own_ne_blk (own_below (own_below (own_below (own_below (own_below HOY.out HB5.out) HB6.out) HB7.out) HB8.out) HB9.out) ((HB9.out.block _ (by omega)).trans ((HB8.out.block _ (by omega)).trans ((HB7.out.block _ (by omega)).trans ((HB6.out.block _ (by omega)).trans ((HB5.out.block _ (by omega)).trans ((HB4.out.block _ (by omega)).trans HXP.out)))))) (by decide) e.symm)).trans ((HB9.out.block _ (by omega)).trans ((HB8.out.block _ (by omega)).trans ((HB7.out.block _ (by omega)).trans ((HB6.out.block _ (by omega)).trans ((HB5.out.block _ (by omega)).trans ((HB4.out.block _ (by omega)).trans HXP.out)))))))))))))
  rw [HW16.out] at cP0 cP1 cP2 cP3
  go_wp2_with fail
  rw [← HW16.out]
  clear cR0 cR1 cR2 cR3 cP0 cP1 cP2 cP3
  refine (eqNd (own_below HOHP.out HB16.out) (own_below HOHS.out HB16.out) (own_below HOHK.out HB16.out) (own_below (own_below (own_below (own_below (own_but (own_below ((own_below (own_below (own_below (own_below (own_below (own_below (own_below HOSP.out HB3.out) HB4.out) HB5.out) HB6.out) HB7.out) HB8.out) HB9.out).kept HB10.out (ne_blocks HISP.out HIY.out (by omega))) HB11.out) HB12.out (fun k hk => by have := HISP.out k hk; omega)) HB13.out) HB14.out) HB15.out) HB16.out) (own_below (own_below (own_below (own_below (own_but (own_below ((own_below (own_below (own_below (own_below (own_below (own_below (own_below HOSS.out HB3.out) HB4.out) HB5.out) HB6.out) HB7.out) HB8.out) HB9.out).kept HB10.out (ne_blocks HISS.out HIY.out (by omega))) HB11.out) HB12.out (fun k hk => by have := HISS.out k hk; omega)) HB13.out) HB14.out) HB15.out) HB16.out) (own_below (own_below (own_below (own_below (own_but (own_below ((own_below (own_below (own_below (own_below (own_below (own_below (own_below HOSK.out HB3.out) HB4.out) HB5.out) HB6.out) HB7.out) HB8.out) HB9.out).kept HB10.out (ne_blocks HISK.out HIY.out (by omega))) HB11.out) HB12.out (fun k hk => by have := HISK.out k hk; omega)) HB13.out) HB14.out) HB15.out) HB16.out) HL.out).mono ?_
  rintro e w17 ⟨rfl, hb17⟩
  have hZ17 : Below w.heap.size w w17 := below_after HZ16.out hb17
  have hs17 : w16.heap.size ≤ w17.heap.size := hb17.size
  have HZ17 := Lib.hid hZ17
  have HB17 := Lib.hid hb17
  clear hZ17 hb17
  obtain ⟨cQ0, cQ1, cQ2, cQ3⟩ := nd_cells ((HB17.out.block _ (by omega)).trans ((HB16.out.block _ (by omega)).trans ((HB15.out.block _ (by omega)).trans ((HB14.out.block _ (by omega)).trans ((HB13.out.block _ (by omega)).trans ((HB12.out.block _ (by omega) (by omega)).trans ((HB11.out.block _ (by omega)).trans ((HB10.out.block _ (by omega) (fun e => own_ne_blk (own_below (own_below (own_below (own_below (own_below HOY.out HB5.out) HB6.out) HB7.out) HB8.out) HB9.out) ((HB9.out.block _ (by omega)).trans ((HB8.out.block _ (by omega)).trans ((HB7.out.block _ (by omega)).trans HXQ.out))) (by decide) e.symm)).trans ((HB9.out.block _ (by omega)).trans ((HB8.out.block _ (by omega)).trans ((HB7.out.block _ (by omega)).trans HXQ.out)))))))))))
  go_wp2_with fail
  clear cQ0 cQ1 cQ2 cQ3
  refine (heldNode_any _ lf _ _ _ _ _ _ _ _ _ _ _ M _ (own_below (own_below (own_below (own_below (own_below HOMP.out HB13.out) HB14.out) HB15.out) HB16.out) HB17.out) (own_below (own_below (own_below (own_below (own_below HOMS.out HB13.out) HB14.out) HB15.out) HB16.out) HB17.out) (own_below (own_below (own_below (own_below (own_below HOMK.out HB13.out) HB14.out) HB15.out) HB16.out) HB17.out) HMP.out HMK.out HL.out.1 HL.out.2.1 HL.out.2.2 HM.out).mono ?_
  rintro e w18 ⟨rfl, hb18⟩
  have hZ18 : Below w.heap.size w w18 := below_after HZ17.out hb18
  have hs18 : w17.heap.size ≤ w18.heap.size := hb18.size
  have HZ18 := Lib.hid hZ18
  have HB18 := Lib.hid hb18
  clear hZ18 hb18
  go_wp2_with fail
  go_ret
  exact ⟨rfl, HZ18.out⟩

set_option maxRecDepth 100000 in
theorem lifted (os : Os) (started : os.Started) (H : Type) (enc : TypeId × Value → H) :
    ReturnsInHanded {} Try.checked os 13 .any (Rows.fnExactReadNodeSpec.pre6 enc Try.prog Try.f13 Rows.fnExactReadNodeRow.domain false) (Rows.fnExactReadNodeSpec.post enc Try.prog Try.f13 false true false false) := by
  refine returnsInHanded_of_change_sized (C := Try.checked) Facts.own started (by kernel_rfl) Try.func13
    (ChangeSpec.witness6 (enc := enc) (C := Try.checked) false ⟨#[], #[.slice none 0 0], []⟩ 8 (by kernel_rfl) (by kernel_rfl) (by kernel_rfl) (by kernel_rfl)) ?_
  intro W base args ds gs before hval0 hW hcnd hsz0 _
  have hsz : (DataW.weightsEach Try.prog (Try.f13.params.toList ++ Rows.fnExactReadNodeSpec.plain.varTypes Try.prog) (ds ++ gs)).all (· ≤ reachBytes) = true := hsz0
  have hval : ∀ (j : Nat) t v, Try.f13.params[j]? = some t → args[j]? = some v → Value.okWide Try.prog W .any base t v := hval0
  have hW' := hW
  obtain ⟨p, q, hA0, hV, rfl, hfz, hnd⟩ := hW
  have hA : DataW.TrodAll enc Try.prog W 0 (fun _ => true) true Try.f13.params.toList args.toList ds p := hA0
  rw [Try.params13] at hA hval hsz
  obtain ⟨rfl, rfl⟩ := trodVars_none hV
  have hltp : ∀ x ∈ p, x.block < W.heap.size := fun x hx => by simpa using hW'.lt x (by simp [hx])
  clear hA0 hval0 hsz0
  obtain ⟨v0, d0, rfl, rfl, h0⟩ := trodAll_one hA
  obtain ⟨A, c, xs, rfl, hx, hm⟩ := open_bytes (hval 0 39 v0 rfl rfl) h0
  refine (law_any A c xs W hx hm).mono fun e W' ⟨he, bel⟩ => ?_
  subst he
  exact ⟨_, rfl, _, _, _, [], _, [], hW', trodAll_mk1 (shut_bool Try.underlying4 _), trodAll_mk1 (Below.trod Facts.laidOut (by kernel_rfl) (of_decide_eq_true (by kernel_rfl)) h0 bel hltp), rfl, bel.frame _, fun h => by cases h⟩
theorem named_ : Try.pinned.checked.prog.funcNamed Rows.fnExactReadNodeRow.func = some 13 := by kernel_rfl
set_option maxHeartbeats 8000000 in
theorem closed_ : joinedFacts Try.pinned.checked.prog 13 Try.f13 Rows.fnExactReadNodeSpec Rows.fnExactReadNodeRow = true := by
  unfold joinedFacts
  with_reducible repeat' (refine Facts.and_t ?_ ?_)
  all_goals first
    | with_reducible exact Facts.laidOut
    | with_reducible exact Facts.mapsRowed
    | with_reducible exact Facts.stopsHeard
    | with_reducible exact Facts.mayEnter
    | (rw [Facts.plainKeys]; as_aux_lemma => kernel_rfl)
    | (rw [Facts.lifts]; as_aux_lemma => kernel_rfl)
    | (rw [Facts.make_]; as_aux_lemma => kernel_rfl)
    | as_aux_lemma => kernel_rfl
theorem inst_ : Try.f13.isInstance Try.pinned.checked.prog Rows.fnExactReadNodeRow.origin Rows.fnExactReadNodeRow.targs := of_decide_eq_true (by kernel_rfl)
theorem wrap_ : Try.f13.isWrapper Try.pinned.checked.prog Rows.fnExactReadNodeRow.wrapper Rows.fnExactReadNodeRow.mainSum := by unfold Func.isWrapper; first | (rw [if_pos (by decide +kernel)]; kernel_rfl) | (rw [if_neg (by decide +kernel)]; exact ⟨rfl, rfl⟩)
theorem over : Rows.fnExactReadNodeRow.holds Try.pinned (OpenSpec.ofChange Rows.fnExactReadNodeSpec) :=
  OpenClaim.holds_of_wide 13 Try.f13 rfl rfl rfl rfl rfl rfl rfl ⟨rfl, rfl, rfl, rfl, rfl⟩ rfl rfl rfl rfl rfl named_ Try.func13 closed_ inst_ wrap_
    (fun os started H enc _ => lifted os started H enc)
theorem proved : Rows.FnExactReadNodeSaid := over
#print axioms proved
end Go.Proofs.Ytlfnpnkpjdmonaa.lawReadNode
namespace Go.Proofs.Ytlfnpnkpjdmonaa
/-- The row, under a short name, for the claim. -/
theorem fnExactReadNode_holds : Rows.FnExactReadNodeSaid := lawReadNode.proved
end Go.Proofs.Ytlfnpnkpjdmonaa
