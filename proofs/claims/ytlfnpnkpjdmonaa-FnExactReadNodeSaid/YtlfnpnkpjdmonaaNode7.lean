import Derived.Test.YtlfnpnkpjdmonaaNode6
set_option linter.unusedVariables false
set_option linter.unusedSimpArgs false
namespace Go.Proofs.Ytlfnpnkpjdmonaa
open Go.RowKit

theorem rdNd_cases {l y : List UInt8} (h : unsM l = some y) (hd : decide ((rdNd l).2 = 0) = false) : rdNd l = (ndZ, 3) := by
  have h2 := of_decide_eq_false hd
  unfold rdNd at h2 ⊢
  rw [h] at h2 ⊢
  cases y with
  | nil => rfl
  | cons a r =>
    simp only [] at h2 ⊢
    split
    · rename_i ha
      rw [if_pos ha] at h2
      cases hf : full r with
      | none => rfl
      | some xs =>
        rw [hf] at h2
        simp only [] at h2 ⊢
        split
        · rename_i ho
          rw [if_pos ho] at h2
          exact absurd rfl h2
        · rfl
    · rfl
set_option maxRecDepth 100000 in
set_option maxHeartbeats 2000000 in
theorem specReadNode_any (A : Option Addr) (c : Nat) (xs : List UInt8) (w : World) (hx : Rd w w.heap.size A (xs.map bv)) :
    Calls Try.prog 71 #[.slice A xs.length c] w (RNPost (rdNdAll xs) w) := by
  have H0 := Lib.hid (Res4.start w)
  by_cases hl : 65536 < xs.length
  · have HQ : Hid (rdNdAll xs = (ndZ, 2)) := if_pos hl
    clear hx
    go_enter Try.func71, Try.ntmps71
    go_wp2_with fail
    refine bodyPost_ret (v := .tuple #[ndV false none 0 0 none 0 0 none 0 0, .int .i64 2]) (by simp [results, Try.results71, go_sem]) rfl ?_
    rw [HQ.out]
    exact ⟨none, 0, none, 0, none, 0, rfl, NdOwn.zero _ _, H0.out.below⟩
  · have HQ : Hid (rdNdAll xs = rdNd xs) := if_neg hl
    have HX := Lib.hid hx
    have hc := conv_rd (c := c) (hx.below H0.out.below)
    have hll : xs.length ≤ 65536 := by omega
    clear hx
    go_enter Try.func71, Try.ntmps71
    go_wp2_with fail
    refine (l03Unseal_any xs _ hll).mono ?_
    rintro e w1 ⟨x, rfl, _, hb1⟩
    have H1 := Lib.hid (H0.out.old hb1)
    clear hb1 hc
    cases hu : unsM xs with
    | none =>
      have HQ2 : Hid (rdNdAll xs = (ndZ, 8)) := by show rdNdAll xs = _; rw [HQ.out]; unfold rdNd; rw [hu]
      have HR := Lib.hid (H1.out.out (.bool false) (.slice none 0 0) (.slice none 0 0) (.slice none 0 0))
      obtain ⟨r0, r1, r2, r3, f0, f1, f2, f3⟩ := H1.out.cells
      clear hu
      go_wp2_with fail
      generalize ((((w1.setCell ⟨w.heap.size, 0, none⟩ (.bool false)).setCell ⟨w.heap.size, 1, none⟩ (.slice none 0 0)).setCell ⟨w.heap.size, 2, none⟩ (.slice none 0 0)).setCell ⟨w.heap.size, 3, none⟩ (.slice none 0 0)) = W5 at HR ⊢
      obtain ⟨z0, z1, z2, z3, hbl, _⟩ := HR.out
      refine bodyPost_ret (v := .tuple #[ndV false none 0 0 none 0 0 none 0 0, .int .i64 8]) (by simp [results, Try.results71, go_sem, z0, z1, z2, z3]) rfl ?_
      rw [HQ2.out]
      exact ⟨none, 0, none, 0, none, 0, rfl, NdOwn.zero _ _, hbl⟩
    | some y =>
      have HU := Lib.hid hu
      have hc := conv_rd (c := c) (HX.out.below H1.out.below)
      clear hu
      go_wp2_with fail
      refine (l03Read_any xs _ hll).mono ?_
      rintro e w2 ⟨q, QA, qa, QB, qb, QC, qc, rfl, hq, hqq, hb2⟩
      have H2 := Lib.hid (H1.out.old hb2)
      have HN2 := Lib.hid (hq.mono H1.out.below.size)
      have HQQ := Lib.hid hqq
      clear hq hqq hb2 hc
      obtain ⟨w4, hw4⟩ : ∃ W : World, W = w2.alloc (.cells #[.bool q.lf, .slice QA q.l.length qa, .slice QB q.ls.length qb, .slice QC q.ks.length qc] 96) := ⟨_, rfl⟩
      have hb4 : Below w2.heap.size w2 w4 := by rw [hw4]; exact (Below.refl _ _).alloc (Nat.le_refl _) _
      have hbx : w4.heap[w2.heap.size]? = some (.cells #[.bool q.lf, .slice QA q.l.length qa, .slice QB q.ls.length qb, .slice QC q.ks.length qc] 96 (0, 0)) := by rw [hw4]; exact heap_alloc_new _ _
      have H4 := Lib.hid (H2.out.old hb4)
      have HN4 := Lib.hid (HN2.out.below hb4)
      have HW4 := Lib.hid hw4
      obtain ⟨k0, k1, k2, k3⟩ := nd_cells hbx
      obtain ⟨r0, r1, r2, r3, f0, f1, f2, f3⟩ := H4.out.cells
      rw [hw4] at k0 k1 k2 k3 r0 r1 r2 r3 f0 f1 f2 f3
      clear hw4 hb4 hbx
      cases hd : decide ((rdNd xs).2 = 0) with
      | false =>
        have HQ2 : Hid (rdNdAll xs = (ndZ, 3)) := by show rdNdAll xs = _; rw [HQ.out]; exact rdNd_cases HU.out hd
        have HR := Lib.hid (H4.out.out (.bool false) (.slice none 0 0) (.slice none 0 0) (.slice none 0 0))
        clear hd
        go_wp2_with fail
        rw [← HW4.out]
        generalize ((((w4.setCell ⟨w.heap.size, 0, none⟩ (.bool false)).setCell ⟨w.heap.size, 1, none⟩ (.slice none 0 0)).setCell ⟨w.heap.size, 2, none⟩ (.slice none 0 0)).setCell ⟨w.heap.size, 3, none⟩ (.slice none 0 0)) = W5 at HR ⊢
        obtain ⟨z0, z1, z2, z3, hbl, _⟩ := HR.out
        refine bodyPost_ret (v := .tuple #[ndV false none 0 0 none 0 0 none 0 0, .int .i64 3]) (by simp [results, Try.results71, go_sem, z0, z1, z2, z3]) rfl ?_
        rw [HQ2.out]
        exact ⟨none, 0, none, 0, none, 0, rfl, NdOwn.zero _ _, hbl⟩
      | true =>
        have HQ2 : Hid (rdNdAll xs = (q, 0)) := by
          show rdNdAll xs = _
          have h0 := of_decide_eq_true hd
          rw [HQ.out, HQQ.out h0, ← h0]
        have HR := Lib.hid (H4.out.out (.bool q.lf) (.slice QA q.l.length qa) (.slice QB q.ls.length qb) (.slice QC q.ks.length qc))
        clear hd
        go_wp2_with fail
        rw [← HW4.out]
        generalize ((((w4.setCell ⟨w.heap.size, 0, none⟩ (.bool q.lf)).setCell ⟨w.heap.size, 1, none⟩ (.slice QA q.l.length qa)).setCell ⟨w.heap.size, 2, none⟩ (.slice QB q.ls.length qb)).setCell ⟨w.heap.size, 3, none⟩ (.slice QC q.ks.length qc)) = W5 at HR ⊢
        obtain ⟨z0, z1, z2, z3, hbl, hrow⟩ := HR.out
        refine bodyPost_ret (v := .tuple #[q.v QA qa QB qb QC qc, .int .i64 0]) (by simp [results, Try.results71, go_sem, z0, z1, z2, z3]) rfl ?_
        rw [HQ2.out]
        exact ⟨QA, qa, QB, qb, QC, qc, rfl, hrow HN4.out, hbl⟩
/-! ### the law's own helpers at ints, pairs -/
set_option maxRecDepth 100000 in
set_option maxHeartbeats 1000000 in
theorem eqIntS_eq (A B : Option Addr) (c d : Nat) (xs : List Int) (w : World) (hx : Rd w w.heap.size A (xs.map ivi)) (hy : Rd w w.heap.size B (xs.map ivi)) (hl : xs.length ≤ 1048576) :
    Calls Try.prog 155 #[.slice A xs.length c, .slice B xs.length d] w fun e w' => e = .returned (.bool true) ∧ Below w.heap.size w w' := by
  have HX := Lib.hid hx
  have HY := Lib.hid hy
  clear hx hy
  go_enter Try.func155, Try.ntmps155
  go_wp2
  go_loopw [5] (fun i wr => ∃ k : Nat, k ≤ xs.length ∧ i = .int .i64 k ∧ Below w.heap.size w wr) (fun i _ => xs.length - (intOf i).toNat)
  case atStart => exact ⟨0, Nat.zero_le _, rfl, Below.refl _ _⟩
  case round =>
    obtain ⟨k, hk, rfl, hb⟩ := hrel
    by_cases hlt : k < xs.length
    · obtain ⟨ad, rfl, hbl, h0⟩ := (HX.out.below hb).at_ (map_at (f := ivi) hlt)
      obtain ⟨bd, rfl, hbl', g0⟩ := (HY.out.below hb).at_ (map_at (f := ivi) hlt)
      generalize hgx : xs[k] = x at *
      clear hgx
      go_wp2
      go_region
      all_goals
        go_wp2_with fail
        go_roundw
        case rel => exact ⟨k + 1, by omega, by go_num, by first | exact hb.drew | exact hb⟩
        case measure => simp [intOf]; omega
    · go_wp2
      go_ret
      exact ⟨rfl, hb⟩
def Marked1 (k : Int) (j : Nat) (cs : List Value) : Prop := ∀ i, i < j → cs[i]? = some (.int .i64 (k + i))
set_option maxRecDepth 100000 in
theorem markIntS_any (base : Nat) (v : Value) (n : Nat) (xs : List Value) (k : Int) (w : World) (hv : w.ownsRow base 3 1 v n xs) (hl : n ≤ 1048576) (h0 : 0 ≤ k) (h1 : k ≤ 1048576) :
    Calls Try.prog 156 #[v, .int .i64 k] w fun e w' => e = .returned (.int .i64 (k + n)) ∧ (∃ cs, w'.ownsRow base 3 1 v n cs ∧ Marked1 k n cs) ∧ w.grownBy w' v.ownBlock := by
  rcases hv.2 with ⟨rfl, rfl⟩ | ⟨g, cap, cur, rfl, hbase, hg, hc⟩
  · go_enter Try.func156, Try.ntmps156
    go_wp2
    go_loopw [1, 5] (fun l i wr => i = .int .i64 0 ∧ l = .int .i64 k ∧ wr = w) (fun _ i _ => 0)
    case atStart => exact ⟨rfl, rfl, rfl⟩
    case round =>
      obtain ⟨rfl, rfl, rfl⟩ := hrel
      go_wp2
      go_ret
      exact ⟨ret_i (by omega), ⟨xs, hv, fun i hi => by omega⟩, World.grownBy.refl _ _⟩
  · have HV := Lib.hid hv
    clear hv hc hg
    go_enter Try.func156, Try.ntmps156
    go_wp2
    go_loopw [1, 5] (fun l i wr => ∃ (j : Nat) (cs : List Value), j ≤ n ∧ i = .int .i64 j ∧ l = .int .i64 (k + j) ∧ wr.ownsRow base 3 1 (.slice (some ⟨g, 0, none⟩) n cap) n cs ∧ Marked1 k j cs ∧ w.grownBy wr (some g)) (fun _ i _ => n - (intOf i).toNat)
    case atStart => exact ⟨0, xs, Nat.zero_le _, rfl, by simp, HV.out, fun i hi => by omega, World.grownBy.refl _ _⟩
    case round =>
      obtain ⟨j, cs, hj, rfl, rfl, ho, hmk, hgr⟩ := hrel
      by_cases hlt : j < n
      · have hle : cs.length = n * 1 := ho.1
        have hcu : ∃ u, wr.cell? ⟨g, j, none⟩ = some u := by
          rw [ho.cellAt j (by omega)]
          exact ⟨_, List.getElem?_eq_getElem (by omega)⟩
        obtain ⟨u0, c0⟩ := hcu
        have f0 : wr.frozen? ⟨g, j, none⟩ = false := ho.frozenAt j
        have h1 := ho.stored j (.int .i64 (k + j))
        have HO := Lib.hid h1.1
        have HG := Lib.hid (grown_after hgr h1.2)
        have HM : Hid (Marked1 k (j + 1) (cs.set j (.int .i64 (k + j)))) := fun i hi => by
          by_cases e : i = j
          · subst e; rw [List.getElem?_set_self (by omega)]
          · rw [List.getElem?_set_ne (by omega)]; exact hmk i (by omega)
        clear ho hgr h1 hmk hle
        go_wp2_with fail
        go_roundw
        case rel => exact ⟨j + 1, _, by omega, by go_num, by go_num, HO.out, HM.out, HG.out⟩
        case measure => simp [intOf]; omega
      · have HO := Lib.hid ho
        clear ho
        have hjn : j = n := by omega
        subst hjn
        go_wp2
        go_ret
        exact ⟨ret_i (by omega), ⟨cs, HO.out, hmk⟩, hgr⟩
set_option maxRecDepth 100000 in
theorem heldIntS_any (base : Nat) (v : Value) (n : Nat) (xs : List Value) (k : Int) (w : World) (hv : w.ownsRow base 3 1 v n xs) (hm : Marked1 k n xs) (hl : n ≤ 1048576) (h0 : 0 ≤ k) (h1 : k ≤ 1048576) :
    Calls Try.prog 157 #[v, .int .i64 k] w fun e w' => e = .returned (.int .i64 (k + n)) ∧ Below w.heap.size w w' := by
  rcases hv.2 with ⟨rfl, rfl⟩ | ⟨g, cap, cur, rfl, hbase, hg, hc⟩
  · go_enter Try.func157, Try.ntmps157
    go_wp2
    go_loopw [1, 5] (fun l i wr => i = .int .i64 0 ∧ l = .int .i64 k ∧ wr = w) (fun _ i _ => 0)
    case atStart => exact ⟨rfl, rfl, rfl⟩
    case round =>
      obtain ⟨rfl, rfl, rfl⟩ := hrel
      go_wp2
      go_ret
      exact ⟨ret_i (by omega), Below.refl _ _⟩
  · have HV := Lib.hid hv
    have HM := Lib.hid hm
    clear hv hc hg hm
    go_enter Try.func157, Try.ntmps157
    go_wp2
    go_loopw [1, 5] (fun l i wr => ∃ j : Nat, j ≤ n ∧ i = .int .i64 j ∧ l = .int .i64 (k + j) ∧ Below w.heap.size w wr) (fun _ i _ => n - (intOf i).toNat)
    case atStart => exact ⟨0, Nat.zero_le _, rfl, by simp, Below.refl _ _⟩
    case round =>
      obtain ⟨j, hj, rfl, rfl, hb⟩ := hrel
      by_cases hlt : j < n
      · have ho := own_below HV.out hb
        have hln : xs.length = n * 1 := ho.1
        have c0 : wr.cell? ⟨g, j, none⟩ = some (.int .i64 (k + j)) := (ho.cellAt j (by omega)).trans (HM.out j hlt)
        clear ho hln
        go_wp2_with fail
        go_roundw
        case rel => exact ⟨j + 1, by omega, by go_num, by go_num, hb⟩
        case measure => simp [intOf]; omega
      · have hjn : j = n := by omega
        subst hjn
        go_wp2
        go_ret
        exact ⟨ret_i (by omega), hb⟩
def Marked2 (k : Int) (j : Nat) (cs : List Value) : Prop := ∀ i, i < j → cs[i * 2]? = some (.string (mkT (k + 2 * i))) ∧ cs[i * 2 + 1]? = some (.string (mkT (k + 2 * i + 1)))
theorem Marked2.step {k : Int} {j : Nat} {cs : List Value} (h : Marked2 k j cs) (hl : j * 2 + 2 ≤ cs.length) : Marked2 k (j + 1) ((cs.set (j * 2) (.string (mkT (k + 2 * j)))).set (j * 2 + 1) (.string (mkT (k + 2 * j + 1)))) := by
  intro i hi
  by_cases e : i = j
  · subst e
    refine ⟨?_, ?_⟩
    · rw [List.getElem?_set_ne (by omega), List.getElem?_set_self (by omega)]
    · rw [List.getElem?_set_self (by rw [List.length_set]; omega)]
  · rw [List.getElem?_set_ne (by omega), List.getElem?_set_ne (by omega), List.getElem?_set_ne (by omega), List.getElem?_set_ne (by omega)]
    exact h i (by omega)
theorem grown_drop {w w1 w2 : World} {row : Option Nat} (h : w.grownBy w1 row) (hb : Below w1.heap.size w1 w2) : w.grownBy w2 row := grown_after h (grown_below hb _)
set_option maxRecDepth 100000 in
set_option maxHeartbeats 4000000 in
theorem markPairS_any (base : Nat) (v : Value) (n : Nat) (xs : List Value) (k : Int) (w : World) (hv : w.ownsRow base 82 2 v n xs) (hl : n ≤ 1048576) (h0 : 0 ≤ k) (h1 : k ≤ 1048576) :
    Calls Try.prog 100 #[v, .int .i64 k] w fun e w' => e = .returned (.int .i64 (k + 2 * n)) ∧ (∃ cs, w'.ownsRow base 82 2 v n cs ∧ Marked2 k n cs) ∧ w.grownBy w' v.ownBlock := by
  rcases hv.2 with ⟨rfl, rfl⟩ | ⟨g, cap, cur, rfl, hbase, hg, hc⟩
  · go_enter Try.func100, Try.ntmps100
    go_wp2
    go_loopw [1, 5] (fun l i wr => i = .int .i64 0 ∧ l = .int .i64 k ∧ wr = w) (fun _ i _ => 0)
    case atStart => exact ⟨rfl, rfl, rfl⟩
    case round =>
      obtain ⟨rfl, rfl, rfl⟩ := hrel
      go_wp2
      go_ret
      exact ⟨ret_i (by omega), ⟨xs, hv, fun i hi => by omega⟩, World.grownBy.refl _ _⟩
  · have HV := Lib.hid hv
    clear hv hc hg
    go_enter Try.func100, Try.ntmps100
    go_wp2
    go_loopw [1, 5] (fun l i wr => ∃ (j : Nat) (cs : List Value), j ≤ n ∧ i = .int .i64 j ∧ l = .int .i64 (k + 2 * j) ∧ wr.ownsRow base 82 2 (.slice (some ⟨g, 0, none⟩) n cap) n cs ∧ Marked2 k j cs ∧ w.grownBy wr (some g)) (fun _ i _ => n - (intOf i).toNat)
    case atStart => exact ⟨0, xs, Nat.zero_le _, rfl, by simp, HV.out, fun i hi => by omega, World.grownBy.refl _ _⟩
    case round =>
      obtain ⟨j, cs, hj, rfl, rfl, ho, hmk, hgr⟩ := hrel
      by_cases hlt : j < n
      · have HO := Lib.hid ho
        have HGR := Lib.hid hgr
        clear ho hgr
        have HLN : Hid (cs.length = n * 2) := HO.out.1
        have HMK := Lib.hid hmk
        clear hmk
        have HG0 : Hid (w.grownBy wr (some g)) := HGR.out
        have HO0 := HO
        go_wp2_with fail
        refine (markText_any _ _ (by omega)).mono ?_
        rintro e w1 ⟨rfl, hb1⟩
        have ho1 := own_below HO0.out hb1
        have hln : j * 2 + 2 ≤ n * 2 := by omega
        have hle : _ = n * 2 := ho1.1
        have HG1 : Hid (w.grownBy (w1.setCell ⟨g, j * 2, none⟩ (.string (mkT (k + 2 * j)))) (some g)) := grown_after (grown_after HG0.out (grown_below hb1 _)) (grown_set _ _ _ _)
        have HO1 := Lib.hid (ho1.stored (j * 2) (.string (mkT (k + 2 * j)))).1
        have f0 : w1.frozen? ⟨g, j * 2, none⟩ = false := ho1.frozenAt (j * 2)
        have hcu : ∃ u, w1.cell? ⟨g, j * 2, none⟩ = some u := by
          rw [ho1.cellAt (j * 2) (by omega)]
          exact ⟨_, List.getElem?_eq_getElem (by omega)⟩
        obtain ⟨u0, c0⟩ := hcu
        clear ho1 hb1 hln hle HO0 HG0
        go_wp2_with fail
        refine (markText_any _ _ (by omega)).mono ?_
        rintro e w2 ⟨rfl, hb2⟩
        have ho2 := own_below HO1.out hb2
        have hln : j * 2 + 2 ≤ n * 2 := by omega
        have hle : _ = n * 2 := ho2.1
        have HG2 : Hid (w.grownBy (w2.setCell ⟨g, j * 2 + 1, none⟩ (.string (mkT (k + 2 * j + 1)))) (some g)) := grown_after (grown_after HG1.out (grown_below hb2 _)) (grown_set _ _ _ _)
        have HO2 := Lib.hid (ho2.stored (j * 2 + 1) (.string (mkT (k + 2 * j + 1)))).1
        have f1 : w2.frozen? ⟨g, j * 2 + 1, none⟩ = false := ho2.frozenAt (j * 2 + 1)
        have hcu : ∃ u, w2.cell? ⟨g, j * 2 + 1, none⟩ = some u := by
          rw [ho2.cellAt (j * 2 + 1) (by omega)]
          exact ⟨_, List.getElem?_eq_getElem (by omega)⟩
        obtain ⟨u1, c1⟩ := hcu
        clear ho2 hb2 hln hle HO1 HG1
        go_wp2_with fail
        go_roundw
        case rel => exact ⟨j + 1, _, by omega, by go_num, by go_num, HO2.out, HMK.out.step (by have := HLN.out; omega), HG2.out⟩
        case measure => simp [intOf]; omega
      · have HO := Lib.hid ho
        clear ho
        have hjn : j = n := by omega
        subst hjn
        go_wp2
        go_ret
        exact ⟨ret_i (by omega), ⟨cs, HO.out, hmk⟩, hgr⟩
set_option maxRecDepth 100000 in
set_option maxHeartbeats 4000000 in
theorem heldPairS_any (base : Nat) (v : Value) (n : Nat) (xs : List Value) (k : Int) (w : World) (hv : w.ownsRow base 82 2 v n xs) (hm : Marked2 k n xs) (hl : n ≤ 1048576) (h0 : 0 ≤ k) (h1 : k ≤ 1048576) :
    Calls Try.prog 101 #[v, .int .i64 k] w fun e w' => e = .returned (.int .i64 (k + 2 * n)) ∧ Below w.heap.size w w' := by
  rcases hv.2 with ⟨rfl, rfl⟩ | ⟨g, cap, cur, rfl, hbase, hg, hc⟩
  · go_enter Try.func101, Try.ntmps101
    go_wp2
    go_loopw [1, 5] (fun l i wr => i = .int .i64 0 ∧ l = .int .i64 k ∧ wr = w) (fun _ i _ => 0)
    case atStart => exact ⟨rfl, rfl, rfl⟩
    case round =>
      obtain ⟨rfl, rfl, rfl⟩ := hrel
      go_wp2
      go_ret
      exact ⟨ret_i (by omega), Below.refl _ _⟩
  · have hgl : g < w.heap.size := (Array.getElem?_eq_some_iff.1 hg).1
    have HV := Lib.hid hv
    have HM := Lib.hid hm
    clear hv hc hg hm
    go_enter Try.func101, Try.ntmps101
    go_wp2
    go_loopw [1, 5] (fun l i wr => ∃ j : Nat, j ≤ n ∧ i = .int .i64 j ∧ l = .int .i64 (k + 2 * j) ∧ Below w.heap.size w wr) (fun _ i _ => n - (intOf i).toNat)
    case atStart => exact ⟨0, Nat.zero_le _, rfl, by simp, Below.refl _ _⟩
    case round =>
      obtain ⟨j, hj, rfl, rfl, hb⟩ := hrel
      by_cases hlt : j < n
      · have hs := hb.size
        have ho := own_below HV.out hb
        have hln : xs.length = n * 2 := ho.1
        have hm := HM.out j hlt
        have c0 : wr.cell? ⟨g, j * 2, none⟩ = some (.string (mkT (k + 2 * j))) := (ho.cellAt (j * 2) (by omega)).trans hm.1
        have c1 : wr.cell? ⟨g, j * 2 + 1, none⟩ = some (.string (mkT (k + 2 * j + 1))) := (ho.cellAt (j * 2 + 1) (by omega)).trans hm.2
        clear ho hln hm
        have hgw : g < wr.heap.size := by omega
        have HC : Hid (∀ W : World, Below wr.heap.size wr W → W.cell? ⟨g, j * 2, none⟩ = some (.string (mkT (k + 2 * j))) ∧ W.cell? ⟨g, j * 2 + 1, none⟩ = some (.string (mkT (k + 2 * j + 1)))) := fun W hB => ⟨(hB.cell hgw).trans c0, (hB.cell hgw).trans c1⟩
        have HB := Lib.hid hb
        clear hb
        clear c1
        go_wp2_with fail
        go_region_held3 (fun w' => w'.cell? ⟨g, j * 2, none⟩ = some (.string (mkT (k + 2 * j))))
          ((first | assumption | (refine (HC.out _ ?_).1; exact hb2)))
          (first | (go_at_call 110; refine (markText_any _ _ (by omega)).mono ?_; rintro e w2 ⟨rfl, hb2'⟩; have hb2 : Below wr.heap.size wr w2 := Below.trans (by first | exact Below.refl _ _ | exact (Below.refl _ _).drew) (hb2'.mono (by first | exact Nat.le_refl _ | (simp; done)))))
        all_goals
          have HB2 := Lib.hid hb2
          obtain ⟨-, d1⟩ := HC.out _ HB2.out
          clear hb2' hb2 c0
          go_wp2_with fail
          go_region_held3 (fun w' => w'.cell? ⟨g, j * 2 + 1, none⟩ = some (.string (mkT (k + 2 * j + 1))))
            ((first | assumption | (refine (HC.out _ ?_).2; exact hb3)))
            (first | (go_at_call 110; refine (markText_any _ _ (by omega)).mono ?_; rintro e w3 ⟨rfl, hb3'⟩; have hb3 : Below wr.heap.size wr w3 := HB2.out.drew.trans (hb3'.mono (by first | exact HB2.out.size | exact HB2.out.drew.size))))
          all_goals
            have HB3 := Lib.hid (HB.out.trans (hb3.mono hs))
            clear hb3' hb3 d1
            go_wp2_with fail
            go_roundw
            case rel => exact ⟨j + 1, by omega, by go_num, by go_num, HB3.out⟩
            case measure => simp [intOf]; omega
      · have hjn : j = n := by omega
        subst hjn
        go_wp2
        go_ret
        exact ⟨ret_i (by omega), hb⟩
end Go.Proofs.Ytlfnpnkpjdmonaa
