import Derived.Test.YtlfnpnkpjdmonaaNode4
import Derived.Test.YtlfnpnkpjdmonaaBytes
import Derived.Test.YtlfnpnkpjdmonaaCodec
set_option linter.unusedVariables false
set_option linter.unusedSimpArgs false
namespace Go.Proofs.Ytlfnpnkpjdmonaa
open Go.RowKit

/-! ### a node is read: the program -/
theorem nodeOf_any (lf : Bool) (A : Option Addr) (c : Nat) (xs : List (List UInt8)) (w : World) (hx : Rd w w.heap.size A (xs.map sv)) (hl : xs.length ≤ 255) :
    Calls Try.prog 221 #[.bool lf, .slice A xs.length c] w (NOPost lf xs w) := by
  cases lf
  · exact nodeOf_inner A c xs w hx hl
  · exact nodeOf_leaf A c xs w hx hl
/-- what reading a node comes to -/
noncomputable def rdNd (l : List UInt8) : Nd × Int := match unsM l with
  | none => (ndZ, 8)
  | some [] => (ndZ, 3)
  | some (a :: r) => if a = 108 ∨ a = 105 then (match full r with
    | none => (ndZ, 3)
    | some xs => if okNd (decide (a = 108)) xs = true then (ndM (decide (a = 108)) xs, 0) else (ndZ, 3)) else (ndZ, 3)
theorem unsM_len {l y : List UInt8} (h : unsM l = some y) : y.length ≤ l.length := by
  unfold unsM at h
  split at h
  · cases h
  · split at h
    · cases h; simp
    · cases h
def RNPost (q : Nd × Int) (w : World) (e : Ending) (w' : World) : Prop := ∃ (A : Option Addr) (ca : Nat) (B : Option Addr) (cb : Nat) (C : Option Addr) (cc : Nat), e = .returned (.tuple #[q.1.v A ca B cb C cc, .int .i64 q.2]) ∧ NdOwn w' w.heap.size q.1 A ca B cb C cc ∧ Below w.heap.size w w'
/-- the result's own memory, at four fields -/
structure Res4 (w wr : World) : Prop where
  res : wr.heap[w.heap.size]? = some (.cells #[.bool false, .slice none 0 0, .slice none 0 0, .slice none 0 0] 96 (0, 0))
  below : Below w.heap.size w wr
theorem Res4.start (w : World) : Res4 w (w.alloc (.cells #[.bool false, .slice none 0 0, .slice none 0 0, .slice none 0 0] 96)) := ⟨heap_alloc_new _ _, by repeat (first | exact Below.refl _ _ | assumption | refine Below.drew ?_ | refine below_drewN ?_ _ | refine Below.setCell ?_ (by first | exact Nat.le_refl _ | exact Below.size (by assumption) | (simp; done) | (simp; omega) | omega) _ | refine Below.alloc ?_ (by first | exact Nat.le_refl _ | exact Below.size (by assumption) | (simp; done) | (simp; omega) | omega) _)⟩
theorem Res4.old {w wr w' : World} (h : Res4 w wr) (hb : Below wr.heap.size wr w') : Res4 w w' := ⟨(hb.block _ (Array.getElem?_eq_some_iff.1 h.res).1).trans h.res, below_after h.below hb⟩
theorem Res4.cells {w wr : World} (h : Res4 w wr) : wr.cell? ⟨w.heap.size, 0, none⟩ = some (.bool false) ∧ wr.cell? ⟨w.heap.size, 1, none⟩ = some (.slice none 0 0) ∧ wr.cell? ⟨w.heap.size, 2, none⟩ = some (.slice none 0 0) ∧ wr.cell? ⟨w.heap.size, 3, none⟩ = some (.slice none 0 0) ∧ wr.frozen? ⟨w.heap.size, 0, none⟩ = false ∧ wr.frozen? ⟨w.heap.size, 1, none⟩ = false ∧ wr.frozen? ⟨w.heap.size, 2, none⟩ = false ∧ wr.frozen? ⟨w.heap.size, 3, none⟩ = false :=
  let ⟨a, b, c, d⟩ := nd_cells h.res; ⟨a, b, c, d, Lib.frozen_of_heap h.res 0, Lib.frozen_of_heap h.res 1, Lib.frozen_of_heap h.res 2, Lib.frozen_of_heap h.res 3⟩
theorem Res4.out {w wr : World} (h : Res4 w wr) (u0 u1 u2 u3 : Value) :
    let W := (((wr.setCell ⟨w.heap.size, 0, none⟩ u0).setCell ⟨w.heap.size, 1, none⟩ u1).setCell ⟨w.heap.size, 2, none⟩ u2).setCell ⟨w.heap.size, 3, none⟩ u3
    W.cell? ⟨w.heap.size, 0, none⟩ = some u0 ∧ W.cell? ⟨w.heap.size, 1, none⟩ = some u1 ∧ W.cell? ⟨w.heap.size, 2, none⟩ = some u2 ∧ W.cell? ⟨w.heap.size, 3, none⟩ = some u3 ∧ Below w.heap.size w W ∧ ∀ {base : Nat} {q : Nd} {A B C : Option Addr} {ca cb cc : Nat}, NdOwn wr base q A ca B cb C cc → NdOwn W base q A ca B cb C cc := by
  intro W
  have e1 := heap_setCell_same wr w.heap.size 0 _ 96 u0 h.res
  have e2 := heap_setCell_same _ w.heap.size 1 _ 96 u1 e1
  have e3 := heap_setCell_same _ w.heap.size 2 _ 96 u2 e2
  have e4 := heap_setCell_same _ w.heap.size 3 _ 96 u3 e3
  have e5 : W.heap[w.heap.size]? = some (.cells #[u0, u1, u2, u3] 96 (0, 0)) := by simpa using e4
  obtain ⟨a, b, c, d⟩ := nd_cells e5
  refine ⟨a, b, c, d, ?_, fun {base q A B C ca cb cc} ho => ⟨?_, ?_, ?_⟩⟩
  · exact (((h.below.setCell (p := ⟨w.heap.size, 0, none⟩) (Nat.le_refl _) _).setCell (p := ⟨w.heap.size, 1, none⟩) (Nat.le_refl _) _).setCell (p := ⟨w.heap.size, 2, none⟩) (Nat.le_refl _) _).setCell (p := ⟨w.heap.size, 3, none⟩) (Nat.le_refl _) _
  · exact row_put (row_put (row_put (row_put ho.p h.res (by decide)) e1 (by decide)) e2 (by decide)) e3 (by decide)
  · exact row_put (row_put (row_put (row_put ho.s h.res (by decide)) e1 (by decide)) e2 (by decide)) e3 (by decide)
  · exact row_put (row_put (row_put (row_put ho.k h.res (by decide)) e1 (by decide)) e2 (by decide)) e3 (by decide)
set_option maxRecDepth 100000 in
set_option maxHeartbeats 4000000 in
theorem readNode_any (l : List UInt8) (w : World) (hl : l.length ≤ 65536) : Calls Try.prog 154 #[.string (bs l)] w (RNPost (rdNd l) w) := by
  have H0 := Lib.hid (Res4.start w)
  go_enter Try.func154, Try.ntmps154
  go_wp2_with fail
  refine (unsealed_any l _ hl).mono ?_
  rintro e w1 ⟨x, rfl, hxy, hb1⟩
  have H1 := Lib.hid (H0.out.old hb1)
  have HXY := Lib.hid hxy
  clear hb1 hxy
  cases hu : unsM l with
  | none =>
    have HQ : Hid (rdNd l = (ndZ, 8)) := by show rdNd l = _; unfold rdNd; rw [hu]
    have HR := Lib.hid (H1.out.out (.bool false) (.slice none 0 0) (.slice none 0 0) (.slice none 0 0))
    obtain ⟨r0, r1, r2, r3, f0, f1, f2, f3⟩ := H1.out.cells
    clear hu
    go_wp2_with fail
    generalize ((((w1.setCell ⟨w.heap.size, 0, none⟩ (.bool false)).setCell ⟨w.heap.size, 1, none⟩ (.slice none 0 0)).setCell ⟨w.heap.size, 2, none⟩ (.slice none 0 0)).setCell ⟨w.heap.size, 3, none⟩ (.slice none 0 0)) = W5 at HR ⊢
    obtain ⟨z0, z1, z2, z3, hbl, _⟩ := HR.out
    refine bodyPost_ret (v := .tuple #[ndV false none 0 0 none 0 0 none 0 0, .int .i64 8]) (by simp [results, Try.results154, go_sem, z0, z1, z2, z3]) rfl ?_
    rw [HQ.out]
    exact ⟨none, 0, none, 0, none, 0, rfl, NdOwn.zero _ _, hbl⟩
  | some y =>
    obtain rfl := HXY.out y hu
    have hyl : x.length ≤ 65536 := by
      have h := unsM_len hu
      omega
    cases x with
    | nil =>
      have HQ : Hid (rdNd l = (ndZ, 3)) := by show rdNd l = _; unfold rdNd; rw [hu]
      clear hu
      have HR := Lib.hid (H1.out.out (.bool false) (.slice none 0 0) (.slice none 0 0) (.slice none 0 0))
      obtain ⟨r0, r1, r2, r3, f0, f1, f2, f3⟩ := H1.out.cells
      go_wp2_with fail
      generalize ((((w1.setCell ⟨w.heap.size, 0, none⟩ (.bool false)).setCell ⟨w.heap.size, 1, none⟩ (.slice none 0 0)).setCell ⟨w.heap.size, 2, none⟩ (.slice none 0 0)).setCell ⟨w.heap.size, 3, none⟩ (.slice none 0 0)) = W5 at HR ⊢
      obtain ⟨z0, z1, z2, z3, hbl, _⟩ := HR.out
      refine bodyPost_ret (v := .tuple #[ndV false none 0 0 none 0 0 none 0 0, .int .i64 3]) (by simp [results, Try.results154, go_sem, z0, z1, z2, z3]) rfl ?_
      rw [HQ.out]
      exact ⟨none, 0, none, 0, none, 0, rfl, NdOwn.zero _ _, hbl⟩
    | cons a r =>
      have hg : (bs (a :: r))[0]'(by simp [ByteArray.size]) = a := rfl
      have e1 : ((bs (a :: r)).toList == []) = false := by rw [ByteArray.toList_mk]; rfl
      have e2 : (bs (a :: r)).extract 1 (r.length + 1) = bs r := by rw [bs_cut]; simp
      have e3 : (bs (a :: r)).size = r.length + 1 := by simp [ByteArray.size]
      have e4 : (1 : Int) ≤ (r.length : Int) + 1 := by omega
      have hrl : r.length ≤ 65536 := by simp at hyl; omega
      have hnb : ∀ b : UInt8, a ≠ b → ((a.toNat : Int) != (b.toNat : Int)) = true := fun b h => by
        rw [bne_iff_ne]
        intro e
        exact h (UInt8.toNat_inj.1 (by omega))
      by_cases ha : a = 108 ∨ a = 105
      · obtain ⟨lf, hlf⟩ : ∃ lf, decide (a = 108) = lf := ⟨_, rfl⟩
        have HQ : Hid (rdNd l = (match full r with
          | none => (ndZ, 3)
          | some xs => if okNd lf xs = true then (ndM lf xs, 0) else (ndZ, 3))) := by
          show rdNd l = _; unfold rdNd; rw [hu]; simp only []; rw [if_pos ha, hlf]
        clear hu hnb
        have hcase : (lf = true ∧ (a.toNat : Int) = 108) ∨ (lf = false ∧ (a.toNat : Int) = 105) := by
          rcases ha with rfl | rfl
          · exact .inl ⟨hlf.symm, rfl⟩
          · exact .inr ⟨hlf.symm, rfl⟩
        clear hlf ha
        rcases hcase with ⟨rfl, h8⟩ | ⟨rfl, h8⟩
        · go_wp2_with fail
          refine (justFields_any r _ (by omega)).mono ?_
          rintro e w2 ⟨v2, out, ok, rfl, ho2, h255, hok, hall, hb2⟩
          obtain ⟨A2, c2, rfl, _⟩ := own_form ho2
          have H2 := Lib.hid (H1.out.old hb2)
          have HO2 := Lib.hid ho2
          have HOK := Lib.hid hok
          have HALL := Lib.hid hall
          clear ho2 hb2 hok hall
          go_wp2_with fail
          refine (nodeOf_any true A2 c2 out _ (Rd.own HO2.out) h255).mono ?_
          rintro e w3 ⟨q, QA, qa, QB, qb, QC, qc, rfl, hq, hqq, hb3⟩
          have H3 := Lib.hid (H2.out.old hb3)
          have HN3 := Lib.hid (hq.mono (show w.heap.size ≤ w2.heap.size from H2.out.below.size))
          have HQQ := Lib.hid hqq
          clear hq hqq hb3
          obtain ⟨w4, hw4⟩ : ∃ W : World, W = w3.alloc (.cells #[.bool q.lf, .slice QA q.l.length qa, .slice QB q.ls.length qb, .slice QC q.ks.length qc] 96) := ⟨_, rfl⟩
          have hb4 : Below w3.heap.size w3 w4 := by rw [hw4]; exact (Below.refl _ _).alloc (Nat.le_refl _) _
          have hbx : w4.heap[w3.heap.size]? = some (.cells #[.bool q.lf, .slice QA q.l.length qa, .slice QB q.ls.length qb, .slice QC q.ks.length qc] 96 (0, 0)) := by rw [hw4]; exact heap_alloc_new _ _
          have H4 := Lib.hid (H3.out.old hb4)
          have HN4 := Lib.hid (HN3.out.below hb4)
          have HW4 := Lib.hid hw4
          obtain ⟨k0, k1, k2, k3⟩ := nd_cells hbx
          obtain ⟨r0, r1, r2, r3, f0, f1, f2, f3⟩ := H4.out.cells
          rw [hw4] at k0 k1 k2 k3 r0 r1 r2 r3 f0 f1 f2 f3
          clear hw4 hb4 hbx
          cases hfr : full r with
          | none =>
            have HQ2 : Hid (rdNd l = (ndZ, 3)) := by show rdNd l = _; rw [HQ.out, hfr]
            obtain rfl : ok = false := by rw [HOK.out, hfr]; rfl
            clear hfr
            have HR := Lib.hid (H4.out.out (.bool false) (.slice none 0 0) (.slice none 0 0) (.slice none 0 0))
            go_wp2_with fail
            rw [← HW4.out]
            generalize ((((w4.setCell ⟨w.heap.size, 0, none⟩ (.bool false)).setCell ⟨w.heap.size, 1, none⟩ (.slice none 0 0)).setCell ⟨w.heap.size, 2, none⟩ (.slice none 0 0)).setCell ⟨w.heap.size, 3, none⟩ (.slice none 0 0)) = W5 at HR ⊢
            obtain ⟨z0, z1, z2, z3, hbl, _⟩ := HR.out
            refine bodyPost_ret (v := .tuple #[ndV false none 0 0 none 0 0 none 0 0, .int .i64 3]) (by simp [results, Try.results154, go_sem, z0, z1, z2, z3]) rfl ?_
            rw [HQ2.out]
            exact ⟨none, 0, none, 0, none, 0, rfl, NdOwn.zero _ _, hbl⟩
          | some xs =>
            obtain rfl := HALL.out xs hfr
            obtain rfl : ok = true := by rw [HOK.out, hfr]; rfl
            cases hfo : okNd true out with
            | false =>
              have HQ2 : Hid (rdNd l = (ndZ, 3)) := by show rdNd l = _; rw [HQ.out, hfr]; simp only []; rw [hfo]; rfl
              clear hfr
              have HR := Lib.hid (H4.out.out (.bool false) (.slice none 0 0) (.slice none 0 0) (.slice none 0 0))
              go_wp2_with fail
              rw [← HW4.out]
              generalize ((((w4.setCell ⟨w.heap.size, 0, none⟩ (.bool false)).setCell ⟨w.heap.size, 1, none⟩ (.slice none 0 0)).setCell ⟨w.heap.size, 2, none⟩ (.slice none 0 0)).setCell ⟨w.heap.size, 3, none⟩ (.slice none 0 0)) = W5 at HR ⊢
              obtain ⟨z0, z1, z2, z3, hbl, _⟩ := HR.out
              refine bodyPost_ret (v := .tuple #[ndV false none 0 0 none 0 0 none 0 0, .int .i64 3]) (by simp [results, Try.results154, go_sem, z0, z1, z2, z3]) rfl ?_
              rw [HQ2.out]
              exact ⟨none, 0, none, 0, none, 0, rfl, NdOwn.zero _ _, hbl⟩
            | true =>
              have HQ2 : Hid (rdNd l = (q, 0)) := by show rdNd l = _; rw [HQ.out, hfr]; simp only []; rw [hfo, if_pos rfl, HQQ.out hfo]
              have HR := Lib.hid (H4.out.out (.bool q.lf) (.slice QA q.l.length qa) (.slice QB q.ls.length qb) (.slice QC q.ks.length qc))
              clear hfr
              go_wp2_with fail
              rw [← HW4.out]
              generalize ((((w4.setCell ⟨w.heap.size, 0, none⟩ (.bool q.lf)).setCell ⟨w.heap.size, 1, none⟩ (.slice QA q.l.length qa)).setCell ⟨w.heap.size, 2, none⟩ (.slice QB q.ls.length qb)).setCell ⟨w.heap.size, 3, none⟩ (.slice QC q.ks.length qc)) = W5 at HR ⊢
              obtain ⟨z0, z1, z2, z3, hbl, hrow⟩ := HR.out
              refine bodyPost_ret (v := .tuple #[q.v QA qa QB qb QC qc, .int .i64 0]) (by simp [results, Try.results154, go_sem, z0, z1, z2, z3]) rfl ?_
              rw [HQ2.out]
              exact ⟨QA, qa, QB, qb, QC, qc, rfl, hrow HN4.out, hbl⟩
        · go_wp2_with fail
          refine (justFields_any r _ (by omega)).mono ?_
          rintro e w2 ⟨v2, out, ok, rfl, ho2, h255, hok, hall, hb2⟩
          obtain ⟨A2, c2, rfl, _⟩ := own_form ho2
          have H2 := Lib.hid (H1.out.old hb2)
          have HO2 := Lib.hid ho2
          have HOK := Lib.hid hok
          have HALL := Lib.hid hall
          clear ho2 hb2 hok hall
          go_wp2_with fail
          refine (nodeOf_any false A2 c2 out _ (Rd.own HO2.out) h255).mono ?_
          rintro e w3 ⟨q, QA, qa, QB, qb, QC, qc, rfl, hq, hqq, hb3⟩
          have H3 := Lib.hid (H2.out.old hb3)
          have HN3 := Lib.hid (hq.mono (show w.heap.size ≤ w2.heap.size from H2.out.below.size))
          have HQQ := Lib.hid hqq
          clear hq hqq hb3
          obtain ⟨w4, hw4⟩ : ∃ W : World, W = w3.alloc (.cells #[.bool q.lf, .slice QA q.l.length qa, .slice QB q.ls.length qb, .slice QC q.ks.length qc] 96) := ⟨_, rfl⟩
          have hb4 : Below w3.heap.size w3 w4 := by rw [hw4]; exact (Below.refl _ _).alloc (Nat.le_refl _) _
          have hbx : w4.heap[w3.heap.size]? = some (.cells #[.bool q.lf, .slice QA q.l.length qa, .slice QB q.ls.length qb, .slice QC q.ks.length qc] 96 (0, 0)) := by rw [hw4]; exact heap_alloc_new _ _
          have H4 := Lib.hid (H3.out.old hb4)
          have HN4 := Lib.hid (HN3.out.below hb4)
          have HW4 := Lib.hid hw4
          obtain ⟨k0, k1, k2, k3⟩ := nd_cells hbx
          obtain ⟨r0, r1, r2, r3, f0, f1, f2, f3⟩ := H4.out.cells
          rw [hw4] at k0 k1 k2 k3 r0 r1 r2 r3 f0 f1 f2 f3
          clear hw4 hb4 hbx
          cases hfr : full r with
          | none =>
            have HQ2 : Hid (rdNd l = (ndZ, 3)) := by show rdNd l = _; rw [HQ.out, hfr]
            obtain rfl : ok = false := by rw [HOK.out, hfr]; rfl
            clear hfr
            have HR := Lib.hid (H4.out.out (.bool false) (.slice none 0 0) (.slice none 0 0) (.slice none 0 0))
            go_wp2_with fail
            rw [← HW4.out]
            generalize ((((w4.setCell ⟨w.heap.size, 0, none⟩ (.bool false)).setCell ⟨w.heap.size, 1, none⟩ (.slice none 0 0)).setCell ⟨w.heap.size, 2, none⟩ (.slice none 0 0)).setCell ⟨w.heap.size, 3, none⟩ (.slice none 0 0)) = W5 at HR ⊢
            obtain ⟨z0, z1, z2, z3, hbl, _⟩ := HR.out
            refine bodyPost_ret (v := .tuple #[ndV false none 0 0 none 0 0 none 0 0, .int .i64 3]) (by simp [results, Try.results154, go_sem, z0, z1, z2, z3]) rfl ?_
            rw [HQ2.out]
            exact ⟨none, 0, none, 0, none, 0, rfl, NdOwn.zero _ _, hbl⟩
          | some xs =>
            obtain rfl := HALL.out xs hfr
            obtain rfl : ok = true := by rw [HOK.out, hfr]; rfl
            cases hfo : okNd false out with
            | false =>
              have HQ2 : Hid (rdNd l = (ndZ, 3)) := by show rdNd l = _; rw [HQ.out, hfr]; simp only []; rw [hfo]; rfl
              clear hfr
              have HR := Lib.hid (H4.out.out (.bool false) (.slice none 0 0) (.slice none 0 0) (.slice none 0 0))
              go_wp2_with fail
              rw [← HW4.out]
              generalize ((((w4.setCell ⟨w.heap.size, 0, none⟩ (.bool false)).setCell ⟨w.heap.size, 1, none⟩ (.slice none 0 0)).setCell ⟨w.heap.size, 2, none⟩ (.slice none 0 0)).setCell ⟨w.heap.size, 3, none⟩ (.slice none 0 0)) = W5 at HR ⊢
              obtain ⟨z0, z1, z2, z3, hbl, _⟩ := HR.out
              refine bodyPost_ret (v := .tuple #[ndV false none 0 0 none 0 0 none 0 0, .int .i64 3]) (by simp [results, Try.results154, go_sem, z0, z1, z2, z3]) rfl ?_
              rw [HQ2.out]
              exact ⟨none, 0, none, 0, none, 0, rfl, NdOwn.zero _ _, hbl⟩
            | true =>
              have HQ2 : Hid (rdNd l = (q, 0)) := by show rdNd l = _; rw [HQ.out, hfr]; simp only []; rw [hfo, if_pos rfl, HQQ.out hfo]
              have HR := Lib.hid (H4.out.out (.bool q.lf) (.slice QA q.l.length qa) (.slice QB q.ls.length qb) (.slice QC q.ks.length qc))
              clear hfr
              go_wp2_with fail
              rw [← HW4.out]
              generalize ((((w4.setCell ⟨w.heap.size, 0, none⟩ (.bool q.lf)).setCell ⟨w.heap.size, 1, none⟩ (.slice QA q.l.length qa)).setCell ⟨w.heap.size, 2, none⟩ (.slice QB q.ls.length qb)).setCell ⟨w.heap.size, 3, none⟩ (.slice QC q.ks.length qc)) = W5 at HR ⊢
              obtain ⟨z0, z1, z2, z3, hbl, hrow⟩ := HR.out
              refine bodyPost_ret (v := .tuple #[q.v QA qa QB qb QC qc, .int .i64 0]) (by simp [results, Try.results154, go_sem, z0, z1, z2, z3]) rfl ?_
              rw [HQ2.out]
              exact ⟨QA, qa, QB, qb, QC, qc, rfl, hrow HN4.out, hbl⟩
      · have HQ : Hid (rdNd l = (ndZ, 3)) := by show rdNd l = _; unfold rdNd; rw [hu]; simp only []; rw [if_neg ha]
        have n8 : ((a.toNat : Int) != 108) = true := hnb 108 (fun e => ha (.inl e))
        have n5 : ((a.toNat : Int) != 105) = true := hnb 105 (fun e => ha (.inr e))
        clear hu hnb
        have HR := Lib.hid (H1.out.out (.bool false) (.slice none 0 0) (.slice none 0 0) (.slice none 0 0))
        obtain ⟨r0, r1, r2, r3, f0, f1, f2, f3⟩ := H1.out.cells
        go_wp2_with fail
        generalize ((((w1.setCell ⟨w.heap.size, 0, none⟩ (.bool false)).setCell ⟨w.heap.size, 1, none⟩ (.slice none 0 0)).setCell ⟨w.heap.size, 2, none⟩ (.slice none 0 0)).setCell ⟨w.heap.size, 3, none⟩ (.slice none 0 0)) = W5 at HR ⊢
        obtain ⟨z0, z1, z2, z3, hbl, _⟩ := HR.out
        refine bodyPost_ret (v := .tuple #[ndV false none 0 0 none 0 0 none 0 0, .int .i64 3]) (by simp [results, Try.results154, go_sem, z0, z1, z2, z3]) rfl ?_
        rw [HQ.out]
        exact ⟨none, 0, none, 0, none, 0, rfl, NdOwn.zero _ _, hbl⟩
end Go.Proofs.Ytlfnpnkpjdmonaa
