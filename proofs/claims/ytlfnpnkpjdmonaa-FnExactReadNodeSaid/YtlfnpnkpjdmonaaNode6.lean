import Derived.Test.YtlfnpnkpjdmonaaNode5
set_option linter.unusedVariables false
set_option linter.unusedSimpArgs false
namespace Go.Proofs.Ytlfnpnkpjdmonaa
open Go.RowKit

/-! ### a node is read: the public face, and the reference -/
noncomputable def rdNdAll (l : List UInt8) : Nd × Int := if 65536 < l.length then (ndZ, 2) else rdNd l
set_option maxRecDepth 100000 in
set_option maxHeartbeats 1000000 in
theorem implReadNode_any (A : Option Addr) (c : Nat) (xs : List UInt8) (w : World) (hx : Rd w w.heap.size A (xs.map bv)) :
    Calls Try.prog 72 #[.slice A xs.length c] w (RNPost (rdNdAll xs) w) := by
  have H0 := Lib.hid (Res4.start w)
  by_cases hl : 65536 < xs.length
  · have HQ : Hid (rdNdAll xs = (ndZ, 2)) := if_pos hl
    have HR := Lib.hid (H0.out.out (.bool false) (.slice none 0 0) (.slice none 0 0) (.slice none 0 0))
    clear hx
    go_enter Try.func72, Try.ntmps72
    go_wp2_with fail
    refine bodyPost_ret (v := .tuple #[ndV false none 0 0 none 0 0 none 0 0, .int .i64 2]) (by simp [results, Try.results72, go_sem]) rfl ?_
    rw [HQ.out]
    exact ⟨none, 0, none, 0, none, 0, rfl, NdOwn.zero _ _, H0.out.below⟩
  · have HQ : Hid (rdNdAll xs = rdNd xs) := if_neg hl
    have hc := conv_rd (c := c) (hx.below H0.out.below)
    have HIN : Hid (∀ W : World, Calls Try.prog 154 #[.string (bs xs)] W (RNPost (rdNd xs) W)) := fun W => readNode_any xs W (by omega)
    clear hx
    go_enter Try.func72, Try.ntmps72
    go_wp2_with fail
    refine (HIN.out _).mono ?_
    rintro e w2 ⟨QA, qa, QB, qb, QC, qc, rfl, hq, hb2⟩
    have H2 := Lib.hid (H0.out.old hb2)
    have HN2 := Lib.hid (hq.mono (show w.heap.size ≤ (w.alloc (.cells #[.bool false, .slice none 0 0, .slice none 0 0, .slice none 0 0] 96)).heap.size by simp))
    obtain ⟨r0, r1, r2, r3, f0, f1, f2, f3⟩ := H2.out.cells
    generalize rdNd xs = q at *
    have HR := Lib.hid (H2.out.out (.bool q.1.lf) (.slice QA q.1.l.length qa) (.slice QB q.1.ls.length qb) (.slice QC q.1.ks.length qc))
    clear hb2 hq hc HIN
    go_wp2_with fail
    generalize ((((w2.setCell ⟨w.heap.size, 0, none⟩ (.bool q.1.lf)).setCell ⟨w.heap.size, 1, none⟩ (.slice QA q.1.l.length qa)).setCell ⟨w.heap.size, 2, none⟩ (.slice QB q.1.ls.length qb)).setCell ⟨w.heap.size, 3, none⟩ (.slice QC q.1.ks.length qc)) = W5 at HR ⊢
    obtain ⟨z0, z1, z2, z3, hbl, hrow⟩ := HR.out
    refine bodyPost_ret (v := .tuple #[q.1.v QA qa QB qb QC qc, .int .i64 q.2]) (by simp [results, Try.results72, go_sem, z0, z1, z2, z3]) rfl ?_
    rw [HQ.out]
    exact ⟨QA, qa, QB, qb, QC, qc, rfl, hrow HN2.out, hbl⟩
def SRPost (l : List UInt8) (w : World) (e : Ending) (w' : World) : Prop := ∃ (q : Nd) (A : Option Addr) (ca : Nat) (B : Option Addr) (cb : Nat) (C : Option Addr) (cc : Nat), e = .returned (.tuple #[q.v A ca B cb C cc, .bool (decide ((rdNd l).2 = 0))]) ∧ NdOwn w' w.heap.size q A ca B cb C cc ∧ ((rdNd l).2 = 0 → q = (rdNd l).1) ∧ Below w.heap.size w w'
theorem sr_of {l : List UInt8} {q : Nd} {b : Bool} {w w' : World} {A B C : Option Addr} {ca cb cc : Nat} (hd : decide ((rdNd l).2 = 0) = b ∧ ((rdNd l).2 = 0 → q = (rdNd l).1)) (ho : NdOwn w' w.heap.size q A ca B cb C cc) (hb : Below w.heap.size w w') : SRPost l w (.returned (.tuple #[q.v A ca B cb C cc, .bool b])) w' :=
  ⟨q, A, ca, B, cb, C, cc, by rw [hd.1], ho, hd.2, hb⟩
theorem parseN_sz : ∀ {k : Nat} {r : List UInt8} {p : List (List UInt8) × List UInt8}, parseN k r = some p → ∀ x ∈ p.1, x.length ≤ 300
  | 0, r, p, h => by cases h; intro x hx; cases hx
  | k + 1, r, p, h => by
    rw [parseN] at h
    split at h
    · cases h
    · rename_i hc
      rw [Option.map_eq_some_iff] at h
      obtain ⟨q, hq, rfl⟩ := h
      intro x hx
      rcases List.mem_cons.1 hx with rfl | hx
      · rw [List.length_take]
        have : ¬ 300 < be (r.take 2) := fun e => hc (.inr (.inl e))
        omega
      · exact parseN_sz hq x hx
theorem full_sz {r : List UInt8} {xs : List (List UInt8)} (h : full r = some xs) : ∀ x ∈ xs, x.length ≤ 300 := by
  unfold full at h
  cases hp : parseF r with
  | none => rw [hp] at h; cases h
  | some p =>
    rw [hp] at h
    obtain ⟨ys, t⟩ := p
    cases t with
    | cons _ _ => cases h
    | nil =>
      cases h
      unfold parseF at hp
      split at hp
      · cases hp
      · exact parseN_sz hp
theorem pk_sz {xs : List (List UInt8)} (h : ∀ x ∈ xs, x.length ≤ 300) (k : Nat) : ∀ p ∈ pk xs k, PSz p := by
  have hg : ∀ i, (xs.getD i []).length ≤ 300 := fun i => by
    rw [List.getD_eq_getElem?_getD]
    cases hi : xs[i]? with
    | none => simp
    | some x => exact h x (List.mem_of_getElem? hi)
  intro p hp
  obtain ⟨j, _, rfl⟩ := List.mem_map.1 hp
  have h1 := hg (2 * j)
  have h2 := hg (2 * j + 1)
  refine ⟨?_, ?_⟩ <;> simp only [ByteArray.size, List.size_toArray] <;> omega
theorem ls_sz {xs : List (List UInt8)} (h : ∀ x ∈ xs, x.length ≤ 300) : ∀ s ∈ lsM xs, s.size ≤ 4611686018427387904 := by
  intro s hs
  obtain ⟨x, hx, rfl⟩ := List.mem_map.1 hs
  have h1 := h x hx
  simp only [ByteArray.size, List.size_toArray, List.length_tail]
  omega
theorem okNd_nil : ∀ lf, okNd lf [] = false
  | true => by unfold okNd; rw [if_pos rfl]; simp [withinB, pk]
  | false => by unfold okNd; rw [if_neg (by simp)]; simp [withinB]
/-- a node that is being made behind world w2: its box, what is in it, and the rows -/
structure NC (w2 wr : World) (gb : Nat) (lf : Bool) (bP bL bK vP : Value) (l : List Pr) (vL : Value) (ls : List ByteArray) (vK : Value) (ks : List Int) : Prop where
  box : wr.heap[gb]? = some (.cells #[.bool lf, bP, bL, bK] 96 (0, 0))
  p : wr.ownsRow w2.heap.size 82 2 vP l.length (flat encP l)
  s : wr.ownsRow w2.heap.size 9 1 vL ls.length (ls.map Value.string)
  k : wr.ownsRow w2.heap.size 3 1 vK ks.length (ks.map ivi)
  below : Below w2.heap.size w2 wr
  gt : w2.heap.size ≤ gb
section
variable {w2 wr w' : World} {gb : Nat} {lf : Bool} {bP bL bK vP vL vK : Value} {l : List Pr} {ls : List ByteArray} {ks : List Int}
theorem NC.gl (h : NC w2 wr gb lf bP bL bK vP l vL ls vK ks) : gb < wr.heap.size := (Array.getElem?_eq_some_iff.1 h.box).1
theorem NC.rl (h : NC w2 wr gb lf bP bL bK vP l vL ls vK ks) : w2.heap.size ≤ wr.heap.size := h.below.size
theorem NC.old (h : NC w2 wr gb lf bP bL bK vP l vL ls vK ks) (hb : Below wr.heap.size wr w') : NC w2 w' gb lf bP bL bK vP l vL ls vK ks :=
  ⟨(hb.block _ h.gl).trans h.box, own_below h.p hb, own_below h.s hb, own_below h.k hb, below_after h.below hb, h.gt⟩
theorem NC.drew (h : NC w2 wr gb lf bP bL bK vP l vL ls vK ks) : NC w2 wr.drew gb lf bP bL bK vP l vL ls vK ks   := ⟨h.box, h.p, h.s, h.k, h.below.drew, h.gt⟩
theorem NC.cells (h : NC w2 wr gb lf bP bL bK vP l vL ls vK ks) : wr.cell? ⟨gb, 0, none⟩ = some (.bool lf) ∧ wr.cell? ⟨gb, 1, none⟩ = some bP ∧ wr.cell? ⟨gb, 2, none⟩ = some bL ∧ wr.cell? ⟨gb, 3, none⟩ = some bK := nd_cells h.box
theorem NC.froz (h : NC w2 wr gb lf bP bL bK vP l vL ls vK ks) (i : Nat) : wr.frozen? ⟨gb, i, none⟩ = false := Lib.frozen_of_heap h.box i
theorem NC.blk {e : TypeId} {s n : Nat} {v : Value} {xs : List Value} (h : NC w2 wr gb lf bP bL bK vP l vL ls vK ks) (hv : wr.ownsRow w2.heap.size e s v n xs) (hT : 96 ≠ e) (hg : wr.grownBy w' v.ownBlock) : w'.heap[gb]? = some (.cells #[.bool lf, bP, bL, bK] 96 (0, 0)) :=
  (hg.block _ h.gl (fun e => own_ne_blk' hv h.box hT e.symm)).trans h.box
theorem NC.pushP {p : Pr} {v' : Value} (h : NC w2 wr gb lf bP bL bK vP l vL ls vK ks) (hp : Pushed w2.heap.size 82 2 vP (l.length + 1) (flat encP l ++ encP p) wr v' w') : NC w2 w' gb lf bP bL bK v' (l ++ [p]) vL ls vK ks := by
  have r2 := h.blk h.p (by decide) hp.2
  refine ⟨r2, ?_, kept_ne h.s h.p (by decide) hp.2, kept_ne h.k h.p (by decide) hp.2, hp.below h.p h.below h.rl, h.gt⟩
  rw [flat_append, List.length_append, flat_cons, flat_nil, List.append_nil]
  exact hp.1
theorem NC.pushL {x : ByteArray} {v' : Value} (h : NC w2 wr gb lf bP bL bK vP l vL ls vK ks) (hp : Pushed w2.heap.size 9 1 vL (ls.length + 1) (ls.map Value.string ++ [.string x]) wr v' w') : NC w2 w' gb lf bP bL bK vP l v' (ls ++ [x]) vK ks := by
  have r2 := h.blk h.s (by decide) hp.2
  refine ⟨r2, kept_ne h.p h.s (by decide) hp.2, ?_, kept_ne h.k h.s (by decide) hp.2, hp.below h.s h.below h.rl, h.gt⟩
  rw [List.map_append, List.length_append]
  exact hp.1
theorem NC.pushK {z : Int} {v' : Value} (h : NC w2 wr gb lf bP bL bK vP l vL ls vK ks) (hp : Pushed w2.heap.size 3 1 vK (ks.length + 1) (ks.map ivi ++ [ivi z]) wr v' w') : NC w2 w' gb lf bP bL bK vP l vL ls v' (ks ++ [z]) := by
  have r2 := h.blk h.k (by decide) hp.2
  refine ⟨r2, kept_ne h.p h.k (by decide) hp.2, kept_ne h.s h.k (by decide) hp.2, ?_, hp.below h.k h.below h.rl, h.gt⟩
  rw [List.map_append, List.length_append]
  exact hp.1
theorem NC.put (h : NC w2 wr gb lf bP bL bK vP l vL ls vK ks) (i : Nat) (u : Value) {bP' bL' bK' : Value} (hu : (#[.bool lf, bP, bL, bK] : Array Value).setIfInBounds i u = #[.bool lf, bP', bL', bK']) : NC w2 (wr.setCell ⟨gb, i, none⟩ u) gb lf bP' bL' bK' vP l vL ls vK ks := by
  have hne : ∀ {e : TypeId} {s n : Nat} {v : Value} {xs : List Value}, 96 ≠ e → wr.ownsRow w2.heap.size e s v n xs → (wr.setCell ⟨gb, i, none⟩ u).ownsRow w2.heap.size e s v n xs := fun hT ho => ho.kept (grown_set _ _ _ _) (.inr (own_ne_blk' ho h.box hT))
  exact ⟨(heap_setCell_same _ _ _ _ _ _ h.box).trans (by rw [hu]), hne (by decide) h.p, hne (by decide) h.s, hne (by decide) h.k, h.below.setCell (p := ⟨gb, i, none⟩) h.gt _, h.gt⟩
theorem NC.past (h : NC w2 wr gb lf bP bL bK vP l vL ls vK ks) {r : Nat} (hr : r < w2.heap.size) (u0 u1 u2 u3 : Value) : ((((wr.setCell ⟨r, 0, none⟩ u0).setCell ⟨r, 1, none⟩ u1).setCell ⟨r, 2, none⟩ u2).setCell ⟨r, 3, none⟩ u3).heap[gb]? = some (.cells #[.bool lf, bP, bL, bK] 96 (0, 0)) := by
  have h1 := h.gt
  have hne : gb ≠ r := by omega
  exact (heap_setCell_other _ _ _ _ hne).trans ((heap_setCell_other _ _ _ _ hne).trans ((heap_setCell_other _ _ _ _ hne).trans ((heap_setCell_other _ _ _ _ hne).trans h.box)))
end
theorem nc_start (w2 : World) (lf : Bool) : NC w2 ((((w2.alloc (.cells #[] 82)).alloc (.cells #[] 9)).alloc (.cells #[] 3)).alloc (.cells #[.bool lf, .slice (some ⟨w2.heap.size, 0, none⟩) 0 0, .slice (some ⟨w2.heap.size + 1, 0, none⟩) 0 0, .slice (some ⟨w2.heap.size + 1 + 1, 0, none⟩) 0 0] 96)) (w2.heap.size + 1 + 1 + 1) lf (.slice (some ⟨w2.heap.size, 0, none⟩) 0 0) (.slice (some ⟨w2.heap.size + 1, 0, none⟩) 0 0) (.slice (some ⟨w2.heap.size + 1 + 1, 0, none⟩) 0 0) (.slice (some ⟨w2.heap.size, 0, none⟩) 0 0) [] (.slice (some ⟨w2.heap.size + 1, 0, none⟩) 0 0) [] (.slice (some ⟨w2.heap.size + 1 + 1, 0, none⟩) 0 0) [] := by
  have b1 : Below w2.heap.size w2 (w2.alloc (.cells #[] 82)) := (Below.refl _ _).alloc (Nat.le_refl _) _
  have b2 : Below (w2.alloc (.cells #[] 82)).heap.size (w2.alloc (.cells #[] 82)) ((w2.alloc (.cells #[] 82)).alloc (.cells #[] 9)) := (Below.refl _ _).alloc (Nat.le_refl _) _
  have b3 : Below ((w2.alloc (.cells #[] 82)).alloc (.cells #[] 9)).heap.size ((w2.alloc (.cells #[] 82)).alloc (.cells #[] 9)) (((w2.alloc (.cells #[] 82)).alloc (.cells #[] 9)).alloc (.cells #[] 3)) := (Below.refl _ _).alloc (Nat.le_refl _) _
  have b4 : Below (((w2.alloc (.cells #[] 82)).alloc (.cells #[] 9)).alloc (.cells #[] 3)).heap.size (((w2.alloc (.cells #[] 82)).alloc (.cells #[] 9)).alloc (.cells #[] 3)) ((((w2.alloc (.cells #[] 82)).alloc (.cells #[] 9)).alloc (.cells #[] 3)).alloc (.cells #[.bool lf, .slice (some ⟨w2.heap.size, 0, none⟩) 0 0, .slice (some ⟨w2.heap.size + 1, 0, none⟩) 0 0, .slice (some ⟨w2.heap.size + 1 + 1, 0, none⟩) 0 0] 96)) := (Below.refl _ _).alloc (Nat.le_refl _) _
  refine ⟨?_, ?_, ?_, ?_, below_after (below_after (below_after b1 b2) b3) b4, by omega⟩
  · have := heap_alloc_new (((w2.alloc (.cells #[] 82)).alloc (.cells #[] 9)).alloc (.cells #[] 3)) (.cells #[.bool lf, .slice (some ⟨w2.heap.size, 0, none⟩) 0 0, .slice (some ⟨w2.heap.size + 1, 0, none⟩) 0 0, .slice (some ⟨w2.heap.size + 1 + 1, 0, none⟩) 0 0] 96)
    simpa using this
  · exact own_below (own_below (own_below (own_empty_at (Nat.le_refl _) (heap_alloc_new _ _)) b2) b3) b4
  · have h3 := heap_alloc_new (w2.alloc (.cells #[] 82)) (.cells #[] 9)
    exact own_below (own_below (own_empty_at (base := w2.heap.size) (g := w2.heap.size + 1) (by omega) (by simpa using h3)) b3) b4
  · have h3 := heap_alloc_new ((w2.alloc (.cells #[] 82)).alloc (.cells #[] 9)) (.cells #[] 3)
    exact own_below (own_empty_at (base := w2.heap.size) (g := w2.heap.size + 1 + 1) (by omega) (by simpa using h3)) b4
theorem dec_bad {l : List UInt8} {n : Int} (h : rdNd l = (ndZ, n)) (hn : n ≠ 0) : decide ((rdNd l).2 = 0) = false ∧ ((rdNd l).2 = 0 → ndZ = (rdNd l).1) := by
  rw [h]
  exact ⟨decide_eq_false hn, fun _ => rfl⟩
set_option maxRecDepth 100000 in
set_option maxHeartbeats 16000000 in
theorem l03Read_any (l : List UInt8) (w : World) (hl : l.length ≤ 65536) : Calls Try.prog 153 #[.string (bs l)] w (SRPost l w) := by
  have H0 := Lib.hid (Res4.start w)
  go_enter Try.func153, Try.ntmps153
  go_wp2_with fail
  refine (l03Unseal_any l _ hl).mono ?_
  rintro e w1 ⟨x, rfl, hxy, hb1⟩
  have H1 := Lib.hid (H0.out.old hb1)
  have HXY := Lib.hid hxy
  clear hb1 hxy
  cases hu : unsM l with
  | none =>
    have HDEC := Lib.hid (dec_bad (l := l) (n := 8) (by unfold rdNd; rw [hu]) (by decide))
    clear hu
    have HR := Lib.hid (H1.out.out (.bool false) (.slice none 0 0) (.slice none 0 0) (.slice none 0 0))
    obtain ⟨r0, r1, r2, r3, f0, f1, f2, f3⟩ := H1.out.cells
    go_wp2_with fail
    generalize ((((w1.setCell ⟨w.heap.size, 0, none⟩ (.bool false)).setCell ⟨w.heap.size, 1, none⟩ (.slice none 0 0)).setCell ⟨w.heap.size, 2, none⟩ (.slice none 0 0)).setCell ⟨w.heap.size, 3, none⟩ (.slice none 0 0)) = W5 at HR ⊢
    obtain ⟨z0, z1, z2, z3, hbl, _⟩ := HR.out
    refine bodyPost_ret (v := .tuple #[ndV false none 0 0 none 0 0 none 0 0, .bool false]) (by simp [results, Try.results153, go_sem, z0, z1, z2, z3]) rfl ?_
    exact sr_of (q := ndZ) HDEC.out (NdOwn.zero _ _) hbl
  | some y =>
    obtain rfl := HXY.out y hu
    have hyl : x.length ≤ 65536 := by
      have h := unsM_len hu
      omega
    cases x with
    | nil =>
      have HDEC := Lib.hid (dec_bad (l := l) (n := 3) (by unfold rdNd; rw [hu]) (by decide))
      clear hu
      have HR := Lib.hid (H1.out.out (.bool false) (.slice none 0 0) (.slice none 0 0) (.slice none 0 0))
      obtain ⟨r0, r1, r2, r3, f0, f1, f2, f3⟩ := H1.out.cells
      go_wp2_with fail
      generalize ((((w1.setCell ⟨w.heap.size, 0, none⟩ (.bool false)).setCell ⟨w.heap.size, 1, none⟩ (.slice none 0 0)).setCell ⟨w.heap.size, 2, none⟩ (.slice none 0 0)).setCell ⟨w.heap.size, 3, none⟩ (.slice none 0 0)) = W5 at HR ⊢
      obtain ⟨z0, z1, z2, z3, hbl, _⟩ := HR.out
      refine bodyPost_ret (v := .tuple #[ndV false none 0 0 none 0 0 none 0 0, .bool false]) (by simp [results, Try.results153, go_sem, z0, z1, z2, z3]) rfl ?_
      exact sr_of (q := ndZ) HDEC.out (NdOwn.zero _ _) hbl
    | cons a r =>
      have hg : (bs (a :: r))[0]'(by simp [ByteArray.size]) = a := rfl
      have e1 : ((bs (a :: r)).toList == []) = false := by rw [ByteArray.toList_mk]; rfl
      have e2 : (bs (a :: r)).extract 1 (r.length + 1) = bs r := by rw [bs_cut]; simp
      have e3 : (bs (a :: r)).size = r.length + 1 := by simp [ByteArray.size]
      have e4 : (1 : Int) ≤ (r.length : Int) + 1 := by omega
      have hrl : r.length ≤ 65536 := by simp at hyl; omega
      have HU := Lib.hid hu
      clear hu
      go_wp2_with fail
      refine (l01Read_any r _ (by omega)).mono ?_
      rintro e w2 ⟨v2, out, ok, rfl, ho2, h255, hok, hall, hb2⟩
      obtain ⟨A2, c2, rfl, _⟩ := own_form ho2
      have H2 := Lib.hid (H1.out.old hb2)
      have HO2 := Lib.hid ho2
      have HOK := Lib.hid hok
      have HALL := Lib.hid hall
      have HX2 : Hid (∀ W : World, Below w2.heap.size w2 W → Rd W W.heap.size A2 (out.map sv)) := fun W h => (Rd.own HO2.out).next h
      have hw2 : w.heap.size < w2.heap.size := (Array.getElem?_eq_some_iff.1 H2.out.res).1
      clear ho2 hb2 hok hall
      by_cases ha8 : a = 108
      · have q108 : ((a.toNat : Int) == 108) = true := by rw [ha8]; rfl
        have HQ : Hid (rdNd l = (match full r with
          | none => (ndZ, 3)
          | some xs => if okNd true xs = true then (ndM true xs, 0) else (ndZ, 3))) := by
          show rdNd l = _; unfold rdNd; rw [HU.out]; simp only []; rw [if_pos (.inl ha8), decide_eq_true ha8]
          try (cases full r <;> rfl)
        clear ha8
        have H5N := Lib.hid (nc_start w2 true)
        cases hfr : full r with
        | none =>
          have HDEC := Lib.hid (dec_bad (l := l) (n := 3) (by rw [HQ.out, hfr]) (by decide))
          obtain rfl : ok = false := by rw [HOK.out, hfr]; rfl
          clear hfr
          have H5 := Lib.hid (H2.out.old H5N.out.below)
          have HR := Lib.hid (H5.out.out (.bool false) (.slice none 0 0) (.slice none 0 0) (.slice none 0 0))
          obtain ⟨r0, r1, r2, r3, f0, f1, f2, f3⟩ := H5.out.cells
          go_wp2_with fail
          generalize ((((((((w2.alloc (.cells #[] 82)).alloc (.cells #[] 9)).alloc (.cells #[] 3)).alloc (.cells #[.bool true, .slice (some ⟨w2.heap.size, 0, none⟩) 0 0, .slice (some ⟨w2.heap.size + 1, 0, none⟩) 0 0, .slice (some ⟨w2.heap.size + 1 + 1, 0, none⟩) 0 0] 96)).setCell ⟨w.heap.size, 0, none⟩ (.bool false)).setCell ⟨w.heap.size, 1, none⟩ (.slice none 0 0)).setCell ⟨w.heap.size, 2, none⟩ (.slice none 0 0)).setCell ⟨w.heap.size, 3, none⟩ (.slice none 0 0)) = W5 at HR ⊢
          obtain ⟨z0, z1, z2, z3, hbl, _⟩ := HR.out
          refine bodyPost_ret (v := .tuple #[ndV false none 0 0 none 0 0 none 0 0, .bool false]) (by simp [results, Try.results153, go_sem, z0, z1, z2, z3]) rfl ?_
          exact sr_of (q := ndZ) HDEC.out (NdOwn.zero _ _) hbl
        | some xs =>
          obtain rfl : xs = out := (HALL.out xs hfr).symm
          obtain rfl : ok = true := by rw [HOK.out, hfr]; rfl
          have HSZ := Lib.hid (full_sz hfr)
          have HQX : Hid (rdNd l = if okNd true xs = true then (ndM true xs, 0) else (ndZ, 3)) := by show rdNd l = _; rw [HQ.out, hfr]
          clear hfr
          by_cases h0 : xs.length = 0
          · have HDEC := Lib.hid (dec_bad (l := l) (n := 3) (by rw [HQX.out, List.eq_nil_of_length_eq_zero h0, okNd_nil]; rfl) (by decide))
            have z8 : ((xs.length : Int) == 0) = true := by rw [beq_iff_eq]; omega
            have H5 := Lib.hid (H2.out.old H5N.out.below)
            have HR := Lib.hid (H5.out.out (.bool false) (.slice none 0 0) (.slice none 0 0) (.slice none 0 0))
            obtain ⟨r0, r1, r2, r3, f0, f1, f2, f3⟩ := H5.out.cells
            go_wp2_with fail
            generalize ((((((((w2.alloc (.cells #[] 82)).alloc (.cells #[] 9)).alloc (.cells #[] 3)).alloc (.cells #[.bool true, .slice (some ⟨w2.heap.size, 0, none⟩) 0 0, .slice (some ⟨w2.heap.size + 1, 0, none⟩) 0 0, .slice (some ⟨w2.heap.size + 1 + 1, 0, none⟩) 0 0] 96)).setCell ⟨w.heap.size, 0, none⟩ (.bool false)).setCell ⟨w.heap.size, 1, none⟩ (.slice none 0 0)).setCell ⟨w.heap.size, 2, none⟩ (.slice none 0 0)).setCell ⟨w.heap.size, 3, none⟩ (.slice none 0 0)) = W5 at HR ⊢
            obtain ⟨z0, z1, z2, z3, hbl, _⟩ := HR.out
            refine bodyPost_ret (v := .tuple #[ndV false none 0 0 none 0 0 none 0 0, .bool false]) (by simp [results, Try.results153, go_sem, z0, z1, z2, z3]) rfl ?_
            exact sr_of (q := ndZ) HDEC.out (NdOwn.zero _ _) hbl
          have z8 : ((xs.length : Int) == 0) = false := by rw [beq_eq_false_iff_ne]; omega
          by_cases hev : xs.length % 2 = 0
          · have z9 : ((xs.length : Int) % 2 != 0) = false := by rw [bne_eq_false_iff_eq]; omega
            have z10 : ((xs.length : Int).tmod 2 != 0) = false := by rw [bne_eq_false_iff_eq, Int.tmod_eq_emod_of_nonneg (by omega)]; omega
            have HN0 := H5N
            clear H5N
            go_wp2_with fail
            generalize w2.heap.size + 1 + 1 + 1 = gb at *
            go_loopw [9] (fun i wr => ∃ (j k : Nat) (vP vL vK : Value), j ≤ xs.length ∧ k = (j + 1) / 2 ∧ i = .int .i64 j ∧ NC w2 wr gb true vP vL vK vP (pk xs k) vL [] vK []) (fun i _ => xs.length - (intOf i).toNat)
            case atStart => exact ⟨0, 0, _, _, _, Nat.zero_le _, rfl, rfl, HN0.out⟩
            case round =>
              obtain ⟨j, k, vP, vL, vK, hj, hjk, rfl, hn⟩ := hrel
              have HN := Lib.hid hn
              have HJK := Lib.hid hjk
              have hk255 : k ≤ 128 := by omega
              clear hn hjk HN0
              obtain ⟨cb0, cb1, cb2, cb3⟩ := HN.out.cells
              by_cases hlt : j < xs.length
              · by_cases he : j % 2 = 0
                · have HEV := Lib.hid he
                  have hlt1 : j + 1 < xs.length := by omega
                  obtain ⟨ad, rfl, hbl, _⟩ := (HX2.out _ HN.out.below).at_ (map_at (f := sv) hlt)
                  have HLC : Hid (∀ W : World, Below w2.heap.size w2 W → W.cell? (ad.add j) = some (sv xs[j]) ∧ W.cell? ⟨ad.block, ad.off + (j + 1), none⟩ = some (sv xs[j + 1])) := fun W hW => by
                    obtain ⟨a1, e1, _, h1⟩ := (HX2.out W hW).at_ (map_at (f := sv) hlt)
                    obtain ⟨a2, e2, _, h2⟩ := (HX2.out W hW).at_ (map_at (f := sv) hlt1)
                    cases e1; cases e2
                    exact ⟨h1, by have e : ad.add (j + 1) = ⟨ad.block, ad.off + (j + 1), none⟩ := by simp [Addr.add]
                                  rw [← e]; exact h2⟩
                  have HXE : Hid (bs (xs.getD (2 * k) []) = bs xs[j] ∧ bs (xs.getD (2 * k + 1) []) = bs xs[j + 1]) := by
                    show _ ∧ _
                    have hjk2 : 2 * k = j := by have := HJK.out; omega
                    rw [hjk2, List.getD_eq_getElem?_getD, List.getD_eq_getElem?_getD, List.getElem?_eq_getElem hlt, List.getElem?_eq_getElem hlt1]
                    exact ⟨rfl, rfl⟩
                  generalize xs[j] = x at *
                  generalize xs[j + 1] = y at *
                  have q1 : IntKind.i64.wrap ((j : Int) + 1) = (j : Int) + 1 := IntWalk.i64_in _ (by omega)
                  have q2 : ((j : Int) + 1).toNat = j + 1 := by omega
                  have q3 : (0 : Int) ≤ (j : Int) + 1 := by omega
                  have q4 : (j : Int) + 1 < (xs.length : Int) := by omega
                  have q5 : (j : Int) < (xs.length : Int) := by omega
                  have q8 : ((j : Int) % 2 == 0) = true := by rw [beq_iff_eq]; omega
                  have q9 : ((j : Int).tmod 2 == 0) = true := by rw [beq_iff_eq, Int.tmod_eq_emod_of_nonneg (by omega)]; omega
                  clear he
                  go_wp2_with fail
                  clear cb0 cb1 cb2 cb3
                  refine wp_region_noPanic ?_
                  refine wp_region_held_drew (S := (fun w' => w'.cell? (ad.add j) = some (sv x) ∧ w'.cell? ⟨ad.block, ad.off + (j + 1), none⟩ = some (sv y))) (by kernel_rfl) ?_ (fun hHeld => ?_)
                  · (try dsimp only)
                    exact HLC.out _ (HN.out.drew).below
                  have HN := Lib.hid HN.out.drew
                  generalize wr.drew = W at HN hHeld ⊢
                  refine wpAnyH_take (i := 0) (oi := ⟨some 77, _, _, _, _, _⟩) (v := ?_) rfl (by kernel_rfl) (by kernel_rfl) (by kernel_rfl) (fun _ _ _ h => h) (Or.inl ⟨by simp [Region.wanted, yielded, undef], ?_⟩) (by assumption) ?_
                  rotate_left
                  · ((intro w hSw; (try dsimp only at hSw); go_simp) <;> with_reducible rfl)
                  (try simp only [Act.put, List.setIfInBounds_toArray, List.set_cons_zero, List.set_cons_succ])
                  refine wpAnyH_take (i := 2) (oi := ⟨some 79, _, _, _, _, _⟩) (v := ?_) rfl (by kernel_rfl) (by kernel_rfl) (by kernel_rfl) (fun _ _ _ h => h) (Or.inl ⟨by simp [Region.wanted, yielded, undef], ?_⟩) (by assumption) ?_
                  rotate_left
                  · ((intro w hSw; (try dsimp only at hSw); go_simp) <;> with_reducible rfl)
                  (try simp only [Act.put, List.setIfInBounds_toArray, List.set_cons_zero, List.set_cons_succ])
                  refine wpAnyH_take (i := 3) (oi := ⟨some 80, _, _, _, _, _⟩) (v := ?_) rfl (by kernel_rfl) (by kernel_rfl) (by kernel_rfl) (fun _ _ _ h => h) (Or.inl ⟨by simp [Region.wanted, yielded, undef], ?_⟩) (by assumption) ?_
                  rotate_left
                  · ((intro w hSw; (try dsimp only at hSw); go_simp) <;> with_reducible rfl)
                  (try simp only [Act.put, List.setIfInBounds_toArray, List.set_cons_zero, List.set_cons_succ])
                  refine wpAnyH_take (i := 4) (oi := ⟨some 81, _, _, _, _, _⟩) (v := ?_) rfl (by kernel_rfl) (by kernel_rfl) (by kernel_rfl) (fun _ _ _ h => h) (Or.inl ⟨by simp [Region.wanted, yielded, undef], ?_⟩) (by assumption) ?_
                  rotate_left
                  · ((intro w hSw; (try dsimp only at hSw); go_simp) <;> with_reducible rfl)
                  (try simp only [Act.put, List.setIfInBounds_toArray, List.set_cons_zero, List.set_cons_succ])
                  refine wpAnyH_take (i := 5) (oi := ⟨some 82, _, _, _, _, _⟩) (v := ?_) rfl (by kernel_rfl) (by kernel_rfl) (by kernel_rfl) (fun _ _ _ h => h) (Or.inl ⟨by simp [Region.wanted, yielded, undef], ?_⟩) (by assumption) ?_
                  rotate_left
                  · ((intro w hSw; (try dsimp only at hSw); go_simp) <;> with_reducible rfl)
                  (try simp only [Act.put, List.setIfInBounds_toArray, List.set_cons_zero, List.set_cons_succ])
                  refine wpAnyH_take (i := 6) (oi := ⟨some 83, _, _, _, _, _⟩) (v := ?_) rfl (by kernel_rfl) (by kernel_rfl) (by kernel_rfl) (fun _ _ _ h => h) (Or.inl ⟨by simp [Region.wanted, yielded, undef], ?_⟩) (by assumption) ?_
                  rotate_left
                  · ((intro w hSw; (try dsimp only at hSw); go_simp) <;> with_reducible rfl)
                  (try simp only [Act.put, List.setIfInBounds_toArray, List.set_cons_zero, List.set_cons_succ])
                  refine wpAnyH_take (i := 7) (oi := ⟨some 84, _, _, _, _, _⟩) (v := ?_) rfl (by kernel_rfl) (by kernel_rfl) (by kernel_rfl) (fun _ _ _ h => h) (Or.inl ⟨by simp [Region.wanted, yielded, undef], ?_⟩) (by assumption) ?_
                  rotate_left
                  · ((intro w hSw; (try dsimp only at hSw); go_simp) <;> with_reducible rfl)
                  (try simp only [Act.put, List.setIfInBounds_toArray, List.set_cons_zero, List.set_cons_succ])
                  refine wpAnyH_take (i := 8) (oi := ⟨some 85, _, _, _, _, _⟩) (v := ?_) rfl (by kernel_rfl) (by kernel_rfl) (by kernel_rfl) (fun _ _ _ h => h) (Or.inl ⟨by simp [Region.wanted, yielded, undef], ?_⟩) (by assumption) ?_
                  rotate_left
                  · ((intro w hSw; (try dsimp only at hSw); go_simp) <;> with_reducible rfl)
                  (try simp only [Act.put, List.setIfInBounds_toArray, List.set_cons_zero, List.set_cons_succ])
                  refine wpAnyH_take (i := 9) (oi := ⟨some 86, _, _, _, _, _⟩) (v := ?_) rfl (by kernel_rfl) (by kernel_rfl) (by kernel_rfl) (fun _ _ _ h => h) (Or.inl ⟨by simp [Region.wanted, yielded, undef], ?_⟩) (by assumption) ?_
                  rotate_left
                  · ((intro w hSw; (try dsimp only at hSw); go_simp) <;> with_reducible rfl)
                  (try simp only [Act.put, List.setIfInBounds_toArray, List.set_cons_zero, List.set_cons_succ])
                  refine wpAnyH_take (i := 10) (oi := ⟨some 87, _, _, _, _, _⟩) (v := ?_) rfl (by kernel_rfl) (by kernel_rfl) (by kernel_rfl) (fun _ _ _ h => h) (Or.inl ⟨by simp [Region.wanted, yielded, undef], ?_⟩) (by assumption) ?_
                  rotate_left
                  · ((intro w hSw; (try dsimp only at hSw); go_simp) <;> with_reducible rfl)
                  (try simp only [Act.put, List.setIfInBounds_toArray, List.set_cons_zero, List.set_cons_succ])
                  refine wpAnyH_take (i := 11) (oi := ⟨some 88, _, _, _, _, _⟩) (v := ?_) rfl (by kernel_rfl) (by kernel_rfl) (by kernel_rfl) (fun _ _ _ h => h) (Or.inl ⟨by simp [Region.wanted, yielded, undef], ?_⟩) (by assumption) ?_
                  rotate_left
                  · ((intro w hSw; (try dsimp only at hSw); go_simp) <;> with_reducible rfl)
                  (try simp only [Act.put, List.setIfInBounds_toArray, List.set_cons_zero, List.set_cons_succ])
                  refine wpAnyH_ready (rs := [1, 12]) (by kernel_rfl) (by simp) ?_
                  refine (AllReadyH.cons (o := ⟨some 78, _, _, _, _, _⟩) rfl (fun K hK => ?_) (AllReadyH.cons (o := ⟨some 89, _, _, _, _, _⟩) rfl (fun K hK => ?_) AllReadyH.nil))
                  have cx := HN.out.cells.2.1
                  go_simp
                  clear cx
                  refine hK.out _ _ ?_ (fun hHeld => ?_)
                  · (try dsimp only)
                    exact HLC.out _ (HN.out).below
                  clear hK K
                  (try simp only [Act.put, List.setIfInBounds_toArray, List.set_cons_zero, List.set_cons_succ])
                  refine wpAnyH_ready (rs := [12]) (by kernel_rfl) (by simp) ?_
                  refine (AllReadyH.cons (o := ⟨some 89, _, _, _, _, _⟩) rfl (fun K hK => ?_) AllReadyH.nil)
                  go_simp
                  refine hK.out _ _ ?_ (fun hHeld => ?_)
                  · (try dsimp only)
                    exact HLC.out _ (HN.out.old ((Below.refl _ _).alloc (Nat.le_refl _) _)).below
                  clear hK K
                  (try simp only [Act.put, List.setIfInBounds_toArray, List.set_cons_zero, List.set_cons_succ])
                  obtain ⟨V, hV⟩ : ∃ V : World, V = W.alloc (.cells #[.string (bs x), .string (bs y)] 82) := ⟨_, rfl⟩
                  rw [← hV]
                  have hbW : Below W.heap.size W V := by rw [hV]; exact (Below.refl _ _).alloc (Nat.le_refl _) _
                  have HF : Hid (V.heap[W.heap.size]? = some (.cells #[.string (bs x), .string (bs y)] 82 (0, 0))) := by rw [hV]; exact heap_alloc_new _ _
                  have HN := Lib.hid (HN.out.old hbW)
                  clear hV hbW
                  generalize W.heap.size = gpos at HF
                  rename World => W
                  refine wpAnyH_ready (rs := [13]) (by kernel_rfl) (by simp) ?_
                  refine (AllReadyH.cons (o := ⟨some 90, _, _, _, _, _⟩) rfl (fun K hK => ?_) AllReadyH.nil)
                  refine step_push_one elPair rfl _ _ rfl w2.heap.size vP (pk xs k).length (flat encP (pk xs k)) rfl HN.out.p _ [.string (bs x), .string (bs y)] HF.out rfl rfl (by simp [Value.oneCell']) (by rw [pk_len]; simp only [maxLen]; omega) (by rw [pk_len]; omega) HN.out.rl ?_
                  intro v6 V hp
                  obtain ⟨A6, c6, rfl, _⟩ := own_form hp.1
                  refine hK.out _ _ ?_ (fun hHeld => ?_)
                  · (try dsimp only)
                    exact HLC.out _ (HN.out.pushP (p := (bs x, bs y)) hp).below
                  clear hK K
                  (try simp only [Act.put, List.setIfInBounds_toArray, List.set_cons_zero, List.set_cons_succ])
                  have HN := Lib.hid (HN.out.pushP (p := (bs x, bs y)) hp)
                  clear hp
                  rename World => W
                  refine wpAnyH_take (i := 14) (oi := ⟨some 91, _, _, _, _, _⟩) (v := ?_) rfl (by kernel_rfl) (by kernel_rfl) (by kernel_rfl) (fun _ _ _ h => h) (Or.inl ⟨by simp [Region.wanted, yielded, undef], ?_⟩) (by assumption) ?_
                  rotate_left
                  · ((intro w hSw; (try dsimp only at hSw); go_simp) <;> with_reducible rfl)
                  (try simp only [Act.put, List.setIfInBounds_toArray, List.set_cons_zero, List.set_cons_succ])
                  refine wpAnyH_ready (rs := [15]) (by kernel_rfl) (by simp) ?_
                  refine (AllReadyH.cons rfl (fun K hK => ?_) AllReadyH.nil)
                  have cx := HN.out.cells.2.1
                  have fx := HN.out.froz 1
                  go_simp
                  clear cx fx
                  refine hK.out _ _ ?_ (fun hHeld => ?_)
                  · (try dsimp only)
                    exact HLC.out _ (HN.out.put 1 (.slice A6 ((pk xs k).length + 1) c6) (bP' := (.slice A6 ((pk xs k).length + 1) c6)) (bL' := vL) (bK' := vK) rfl).below
                  clear hK K
                  (try simp only [Act.put, List.setIfInBounds_toArray, List.set_cons_zero, List.set_cons_succ])
                  have HN := Lib.hid (HN.out.put 1 (.slice A6 ((pk xs k).length + 1) c6) (bP' := (.slice A6 ((pk xs k).length + 1) c6)) (bL' := vL) (bK' := vK) rfl)
                  generalize W.setCell ⟨gb, 1, none⟩ (.slice A6 ((pk xs k).length + 1) c6) = V at HN hHeld ⊢
                  rename World => W
                  refine wpAnyH_done (by kernel_rfl) ?_ _
                  refine NoPanic.normal ?_
                  focus
                    go_wp2_with fail
                    go_roundw
                    case rel =>
                      refine ⟨j + 1, k + 1, (.slice A6 ((pk xs k).length + 1) c6), vL, vK, by omega, by have := HJK.out; have := HEV.out; omega, by go_num, ?_⟩
                      rw [pk_succ, HXE.out.1, HXE.out.2]
                      exact HN.out
                    case measure => simp [intOf]; omega
                  go_simp
                  refine hK.out _ _ ?_ (fun hHeld => ?_)
                  · (try dsimp only)
                    exact HLC.out _ (HN.out.old ((Below.refl _ _).alloc (Nat.le_refl _) _)).below
                  clear hK K
                  (try simp only [Act.put, List.setIfInBounds_toArray, List.set_cons_zero, List.set_cons_succ])
                  obtain ⟨V, hV⟩ : ∃ V : World, V = W.alloc (.cells #[.string (bs x), .string (bs y)] 82) := ⟨_, rfl⟩
                  rw [← hV]
                  have hbW : Below W.heap.size W V := by rw [hV]; exact (Below.refl _ _).alloc (Nat.le_refl _) _
                  have HF : Hid (V.heap[W.heap.size]? = some (.cells #[.string (bs x), .string (bs y)] 82 (0, 0))) := by rw [hV]; exact heap_alloc_new _ _
                  have HN := Lib.hid (HN.out.old hbW)
                  clear hV hbW
                  generalize W.heap.size = gpos at HF
                  rename World => W
                  refine wpAnyH_ready (rs := [1]) (by kernel_rfl) (by simp) ?_
                  refine (AllReadyH.cons (o := ⟨some 78, _, _, _, _, _⟩) rfl (fun K hK => ?_) AllReadyH.nil)
                  have cx := HN.out.cells.2.1
                  go_simp
                  clear cx
                  refine hK.out _ _ ?_ (fun hHeld => ?_)
                  · (try dsimp only)
                    exact HLC.out _ (HN.out).below
                  clear hK K
                  (try simp only [Act.put, List.setIfInBounds_toArray, List.set_cons_zero, List.set_cons_succ])
                  refine wpAnyH_ready (rs := [13]) (by kernel_rfl) (by simp) ?_
                  refine (AllReadyH.cons (o := ⟨some 90, _, _, _, _, _⟩) rfl (fun K hK => ?_) AllReadyH.nil)
                  refine step_push_one elPair rfl _ _ rfl w2.heap.size vP (pk xs k).length (flat encP (pk xs k)) rfl HN.out.p _ [.string (bs x), .string (bs y)] HF.out rfl rfl (by simp [Value.oneCell']) (by rw [pk_len]; simp only [maxLen]; omega) (by rw [pk_len]; omega) HN.out.rl ?_
                  intro v6 V hp
                  obtain ⟨A6, c6, rfl, _⟩ := own_form hp.1
                  refine hK.out _ _ ?_ (fun hHeld => ?_)
                  · (try dsimp only)
                    exact HLC.out _ (HN.out.pushP (p := (bs x, bs y)) hp).below
                  clear hK K
                  (try simp only [Act.put, List.setIfInBounds_toArray, List.set_cons_zero, List.set_cons_succ])
                  have HN := Lib.hid (HN.out.pushP (p := (bs x, bs y)) hp)
                  clear hp
                  rename World => W
                  refine wpAnyH_take (i := 14) (oi := ⟨some 91, _, _, _, _, _⟩) (v := ?_) rfl (by kernel_rfl) (by kernel_rfl) (by kernel_rfl) (fun _ _ _ h => h) (Or.inl ⟨by simp [Region.wanted, yielded, undef], ?_⟩) (by assumption) ?_
                  rotate_left
                  · ((intro w hSw; (try dsimp only at hSw); go_simp) <;> with_reducible rfl)
                  (try simp only [Act.put, List.setIfInBounds_toArray, List.set_cons_zero, List.set_cons_succ])
                  refine wpAnyH_ready (rs := [15]) (by kernel_rfl) (by simp) ?_
                  refine (AllReadyH.cons rfl (fun K hK => ?_) AllReadyH.nil)
                  have cx := HN.out.cells.2.1
                  have fx := HN.out.froz 1
                  go_simp
                  clear cx fx
                  refine hK.out _ _ ?_ (fun hHeld => ?_)
                  · (try dsimp only)
                    exact HLC.out _ (HN.out.put 1 (.slice A6 ((pk xs k).length + 1) c6) (bP' := (.slice A6 ((pk xs k).length + 1) c6)) (bL' := vL) (bK' := vK) rfl).below
                  clear hK K
                  (try simp only [Act.put, List.setIfInBounds_toArray, List.set_cons_zero, List.set_cons_succ])
                  have HN := Lib.hid (HN.out.put 1 (.slice A6 ((pk xs k).length + 1) c6) (bP' := (.slice A6 ((pk xs k).length + 1) c6)) (bL' := vL) (bK' := vK) rfl)
                  generalize W.setCell ⟨gb, 1, none⟩ (.slice A6 ((pk xs k).length + 1) c6) = V at HN hHeld ⊢
                  rename World => W
                  refine wpAnyH_done (by kernel_rfl) ?_ _
                  refine NoPanic.normal ?_
                  focus
                    go_wp2_with fail
                    go_roundw
                    case rel =>
                      refine ⟨j + 1, k + 1, (.slice A6 ((pk xs k).length + 1) c6), vL, vK, by omega, by have := HJK.out; have := HEV.out; omega, by go_num, ?_⟩
                      rw [pk_succ, HXE.out.1, HXE.out.2]
                      exact HN.out
                    case measure => simp [intOf]; omega
                · have q8 : ((j : Int) % 2 == 0) = false := by rw [beq_eq_false_iff_ne]; omega
                  have q9 : ((j : Int).tmod 2 == 0) = false := by rw [beq_eq_false_iff_ne, Ne, Int.tmod_eq_emod_of_nonneg (by omega)]; omega
                  have HOD := Lib.hid he
                  clear he
                  go_wp2_with fail
                  go_roundw
                  case rel => exact ⟨j + 1, k, vP, vL, vK, by omega, by have := HJK.out; have := HOD.out; omega, by go_num, HN.out⟩
                  case measure => simp [intOf]; omega
              · have hkk : k = xs.length / 2 := by have := HJK.out; omega
                subst hkk
                obtain ⟨A1, n1, e1', _⟩ := own_form HN.out.p
                obtain ⟨A3, n2, e2', _⟩ := own_form HN.out.s
                obtain ⟨A4, n3, e3', _⟩ := own_form HN.out.k
                have e2'' : vL = .slice A3 0 n2 := e2'
                have e3'' : vK = .slice A4 0 n3 := e3'
                subst e1' e2'' e3''
                have HPZ := Lib.hid (pk_sz HSZ.out (xs.length / 2))
                obtain ⟨b, hb⟩ : ∃ b, (withinB (pk xs (xs.length / 2)).length 1 3 && okR (pk xs (xs.length / 2))) = b := ⟨_, rfl⟩
                have HDEC : Hid (decide ((rdNd l).2 = 0) = b ∧ ((rdNd l).2 = 0 → (⟨true, pk xs (xs.length / 2), [], []⟩ : Nd) = (rdNd l).1)) := by
                  show _ ∧ _
                  have ho : okNd true xs = b := by unfold okNd; rw [if_pos rfl, decide_eq_true hev, ← hb]; rfl
                  rw [HQX.out, ho]
                  cases b
                  · exact ⟨rfl, fun h => by simp at h⟩
                  · exact ⟨rfl, fun _ => rfl⟩
                have HB := Lib.hid hb
                clear hb
                go_wp2_with fail
                refine wp_region_noPanic ?_
                refine wp_region_held_drew (S := (fun w' => w'.cell? ⟨gb, 0, none⟩ = some (.bool true) ∧ w'.cell? ⟨gb, 1, none⟩ = some (.slice A1 (pk xs (xs.length / 2)).length n1) ∧ w'.cell? ⟨gb, 2, none⟩ = some (.slice A3 0 n2) ∧ w'.cell? ⟨gb, 3, none⟩ = some (.slice A4 0 n3))) (by kernel_rfl) ?_ (fun hHeld => ?_)
                · (try dsimp only)
                  exact nd_cells HN.out.drew.box
                have HN := Lib.hid HN.out.drew
                generalize wr.drew = W at HN hHeld ⊢
                refine wpAnyH_take (i := 0) (oi := ⟨some 123, _, _, _, _, _⟩) (v := ?_) rfl (by kernel_rfl) (by kernel_rfl) (by kernel_rfl) (fun _ _ _ h => h) (Or.inl ⟨by simp [Region.wanted, yielded, undef], ?_⟩) (by assumption) ?_
                rotate_left
                · ((intro w hSw; (try dsimp only at hSw); go_simp) <;> with_reducible rfl)
                (try simp only [Act.put, List.setIfInBounds_toArray, List.set_cons_zero, List.set_cons_succ])
                refine wpAnyH_take (i := 1) (oi := ⟨some 124, _, _, _, _, _⟩) (v := ?_) rfl (by kernel_rfl) (by kernel_rfl) (by kernel_rfl) (fun _ _ _ h => h) (Or.inl ⟨by simp [Region.wanted, yielded, undef], ?_⟩) (by assumption) ?_
                rotate_left
                · ((intro w hSw; (try dsimp only at hSw); go_simp) <;> with_reducible rfl)
                (try simp only [Act.put, List.setIfInBounds_toArray, List.set_cons_zero, List.set_cons_succ])
                refine wpAnyH_ready (rs := [2]) (by kernel_rfl) (by simp) ?_
                refine (AllReadyH.cons (o := ⟨some 125, _, _, _, _, _⟩) rfl (fun K hK => ?_) AllReadyH.nil)
                go_simp
                refine (snodeOK_leaf A1 A3 A4 n1 n2 n3 (pk xs (xs.length / 2)) W (Rd.own HN.out.p) (by rw [pk_len]; omega) HPZ.out).mono ?_
                rw [show _ = b from HB.out]
                rintro e V ⟨rfl, hb2⟩
                go_wp2_with fail
                refine hK.out _ _ ?_ (fun hHeld => ?_)
                · (try dsimp only)
                  exact nd_cells (HN.out.old hb2).box
                clear hK K
                (try simp only [Act.put, List.setIfInBounds_toArray, List.set_cons_zero, List.set_cons_succ])
                have HN := Lib.hid (HN.out.old hb2)
                clear hb2
                rename World => W
                refine wpAnyH_ready (rs := [3]) (by kernel_rfl) (by simp) ?_
                refine (AllReadyH.cons rfl (fun K hK => ?_) AllReadyH.nil)
                obtain ⟨r0, r1, r2, r3, rf0, rf1, rf2, rf3⟩ := (H2.out.old HN.out.below).cells
                go_simp
                clear r0 r1 r2 r3 rf0 rf1 rf2 rf3
                refine hK.out _ _ ?_ (fun hHeld => ?_)
                · (try dsimp only)
                  exact nd_cells (HN.out.past hw2 (.bool true) (.slice A1 (pk xs (xs.length / 2)).length n1) (.slice A3 0 n2) (.slice A4 0 n3))
                clear hK K
                (try simp only [Act.put, List.setIfInBounds_toArray, List.set_cons_zero, List.set_cons_succ])
                have HR := Lib.hid ((H2.out.old HN.out.below).out (.bool true) (.slice A1 (pk xs (xs.length / 2)).length n1) (.slice A3 0 n2) (.slice A4 0 n3))
                generalize ((((W.setCell ⟨w.heap.size, 0, none⟩ (.bool true)).setCell ⟨w.heap.size, 1, none⟩ (.slice A1 (pk xs (xs.length / 2)).length n1)).setCell ⟨w.heap.size, 2, none⟩ (.slice A3 0 n2)).setCell ⟨w.heap.size, 3, none⟩ (.slice A4 0 n3)) = W5 at HR hHeld ⊢
                refine wpAnyH_take (i := 4) (oi := ⟨some 3, _, _, _, _, _⟩) (v := ?_) rfl (by kernel_rfl) (by kernel_rfl) (by kernel_rfl) (fun _ _ _ h => h) (Or.inl ⟨by simp [Region.wanted, yielded, undef], ?_⟩) (by assumption) ?_
                rotate_left
                · ((intro w hSw; (try dsimp only at hSw); go_simp) <;> with_reducible rfl)
                (try simp only [Act.put, List.setIfInBounds_toArray, List.set_cons_zero, List.set_cons_succ])
                refine wpAnyH_done (by kernel_rfl) ?_ _
                refine NoPanic.normal ?_
                go_wp2_with fail
                obtain ⟨z0, z1, z2, z3, hbl, hrow⟩ := HR.out
                refine bodyPost_ret (v := .tuple #[ndV true A1 (pk xs (xs.length / 2)).length n1 A3 0 n2 A4 0 n3, .bool b]) (by simp [results, Try.results153, go_sem, z0, z1, z2, z3]) rfl ?_
                exact sr_of (q := ⟨true, pk xs (xs.length / 2), [], []⟩) HDEC.out (hrow (NdOwn.mono ⟨HN.out.p, HN.out.s, HN.out.k⟩ (Nat.le_of_lt hw2))) hbl
          · have HDEC := Lib.hid (dec_bad (l := l) (n := 3) (by rw [HQX.out, if_neg (by unfold okNd; rw [if_pos rfl, decide_eq_false hev]; simp)]) (by decide))
            have z9 : ((xs.length : Int) % 2 != 0) = true := by rw [bne_iff_ne]; omega
            have z10 : ((xs.length : Int).tmod 2 != 0) = true := by rw [bne_iff_ne, Ne, Int.tmod_eq_emod_of_nonneg (by omega)]; omega
            have H5 := Lib.hid (H2.out.old H5N.out.below)
            have HR := Lib.hid (H5.out.out (.bool false) (.slice none 0 0) (.slice none 0 0) (.slice none 0 0))
            obtain ⟨r0, r1, r2, r3, f0, f1, f2, f3⟩ := H5.out.cells
            go_wp2_with fail
            generalize ((((((((w2.alloc (.cells #[] 82)).alloc (.cells #[] 9)).alloc (.cells #[] 3)).alloc (.cells #[.bool true, .slice (some ⟨w2.heap.size, 0, none⟩) 0 0, .slice (some ⟨w2.heap.size + 1, 0, none⟩) 0 0, .slice (some ⟨w2.heap.size + 1 + 1, 0, none⟩) 0 0] 96)).setCell ⟨w.heap.size, 0, none⟩ (.bool false)).setCell ⟨w.heap.size, 1, none⟩ (.slice none 0 0)).setCell ⟨w.heap.size, 2, none⟩ (.slice none 0 0)).setCell ⟨w.heap.size, 3, none⟩ (.slice none 0 0)) = W5 at HR ⊢
            obtain ⟨z0, z1, z2, z3, hbl, _⟩ := HR.out
            refine bodyPost_ret (v := .tuple #[ndV false none 0 0 none 0 0 none 0 0, .bool false]) (by simp [results, Try.results153, go_sem, z0, z1, z2, z3]) rfl ?_
            exact sr_of (q := ndZ) HDEC.out (NdOwn.zero _ _) hbl
      · have q108 : ((a.toNat : Int) == 108) = false := by rw [beq_eq_false_iff_ne]; intro e; exact ha8 (UInt8.toNat_inj.1 (by show a.toNat = 108; omega))
        by_cases ha5 : a = 105
        · have q105 : ((a.toNat : Int) != 105) = false := by rw [ha5]; rfl
          have HQ : Hid (rdNd l = (match full r with
            | none => (ndZ, 3)
            | some xs => if okNd false xs = true then (ndM false xs, 0) else (ndZ, 3))) := by
            show rdNd l = _; unfold rdNd; rw [HU.out]; simp only []; rw [if_pos (.inr ha5), decide_eq_false ha8]
            try (cases full r <;> rfl)
          clear ha8 ha5
          have H5N := Lib.hid (nc_start w2 false)
          cases hfr : full r with
          | none =>
            have HDEC := Lib.hid (dec_bad (l := l) (n := 3) (by rw [HQ.out, hfr]) (by decide))
            obtain rfl : ok = false := by rw [HOK.out, hfr]; rfl
            clear hfr
            have H5 := Lib.hid (H2.out.old H5N.out.below)
            have HR := Lib.hid (H5.out.out (.bool false) (.slice none 0 0) (.slice none 0 0) (.slice none 0 0))
            obtain ⟨r0, r1, r2, r3, f0, f1, f2, f3⟩ := H5.out.cells
            go_wp2_with fail
            generalize ((((((((w2.alloc (.cells #[] 82)).alloc (.cells #[] 9)).alloc (.cells #[] 3)).alloc (.cells #[.bool false, .slice (some ⟨w2.heap.size, 0, none⟩) 0 0, .slice (some ⟨w2.heap.size + 1, 0, none⟩) 0 0, .slice (some ⟨w2.heap.size + 1 + 1, 0, none⟩) 0 0] 96)).setCell ⟨w.heap.size, 0, none⟩ (.bool false)).setCell ⟨w.heap.size, 1, none⟩ (.slice none 0 0)).setCell ⟨w.heap.size, 2, none⟩ (.slice none 0 0)).setCell ⟨w.heap.size, 3, none⟩ (.slice none 0 0)) = W5 at HR ⊢
            obtain ⟨z0, z1, z2, z3, hbl, _⟩ := HR.out
            refine bodyPost_ret (v := .tuple #[ndV false none 0 0 none 0 0 none 0 0, .bool false]) (by simp [results, Try.results153, go_sem, z0, z1, z2, z3]) rfl ?_
            exact sr_of (q := ndZ) HDEC.out (NdOwn.zero _ _) hbl
          | some xs =>
            obtain rfl : xs = out := (HALL.out xs hfr).symm
            obtain rfl : ok = true := by rw [HOK.out, hfr]; rfl
            have HSZ := Lib.hid (full_sz hfr)
            have HQX : Hid (rdNd l = if okNd false xs = true then (ndM false xs, 0) else (ndZ, 3)) := by show rdNd l = _; rw [HQ.out, hfr]
            clear hfr
            by_cases h0 : xs.length = 0
            · have HDEC := Lib.hid (dec_bad (l := l) (n := 3) (by rw [HQX.out, List.eq_nil_of_length_eq_zero h0, okNd_nil]; rfl) (by decide))
              have z8 : ((xs.length : Int) == 0) = true := by rw [beq_iff_eq]; omega
              have H5 := Lib.hid (H2.out.old H5N.out.below)
              have HR := Lib.hid (H5.out.out (.bool false) (.slice none 0 0) (.slice none 0 0) (.slice none 0 0))
              obtain ⟨r0, r1, r2, r3, f0, f1, f2, f3⟩ := H5.out.cells
              go_wp2_with fail
              generalize ((((((((w2.alloc (.cells #[] 82)).alloc (.cells #[] 9)).alloc (.cells #[] 3)).alloc (.cells #[.bool false, .slice (some ⟨w2.heap.size, 0, none⟩) 0 0, .slice (some ⟨w2.heap.size + 1, 0, none⟩) 0 0, .slice (some ⟨w2.heap.size + 1 + 1, 0, none⟩) 0 0] 96)).setCell ⟨w.heap.size, 0, none⟩ (.bool false)).setCell ⟨w.heap.size, 1, none⟩ (.slice none 0 0)).setCell ⟨w.heap.size, 2, none⟩ (.slice none 0 0)).setCell ⟨w.heap.size, 3, none⟩ (.slice none 0 0)) = W5 at HR ⊢
              obtain ⟨z0, z1, z2, z3, hbl, _⟩ := HR.out
              refine bodyPost_ret (v := .tuple #[ndV false none 0 0 none 0 0 none 0 0, .bool false]) (by simp [results, Try.results153, go_sem, z0, z1, z2, z3]) rfl ?_
              exact sr_of (q := ndZ) HDEC.out (NdOwn.zero _ _) hbl
            have z8 : ((xs.length : Int) == 0) = false := by rw [beq_eq_false_iff_ne]; omega
            have HN0 := H5N
            clear H5N
            go_wp2_with fail
            generalize w2.heap.size + 1 + 1 + 1 = gb at *
            go_loopw [9] (fun i wr => ∃ (k : Nat) (vP vL vK : Value), k ≤ xs.length ∧ i = .int .i64 k ∧ (xs.take k).any List.isEmpty = false ∧ NC w2 wr gb false vP vL vK vP [] vL (lsM (xs.take k)) vK (ksM (xs.take k))) (fun i _ => xs.length - (intOf i).toNat)
            case atStart => exact ⟨0, _, _, _, Nat.zero_le _, rfl, rfl, HN0.out⟩
            case round =>
              obtain ⟨k, vP, vL, vK, hk, rfl, hye, hn⟩ := hrel
              have HN := Lib.hid hn
              have HYE := Lib.hid hye
              clear hn hye HN0
              obtain ⟨cb0, cb1, cb2, cb3⟩ := HN.out.cells
              by_cases hlt : k < xs.length
              · obtain ⟨ad, rfl, hbl, hc⟩ := (HX2.out _ HN.out.below).at_ (map_at (f := sv) hlt)
                have HTK := Lib.hid (take_snoc hlt)
                have HAN : Hid (xs[k] = [] → rdNd l = (ndZ, 3)) := fun h => by
                  have hm : xs.any List.isEmpty = true := List.any_eq_true.2 ⟨xs[k], List.getElem_mem hlt, by rw [h]; rfl⟩
                  rw [HQX.out, if_neg]
                  unfold okNd
                  rw [if_neg (by simp), hm]
                  simp
                have HLC : Hid (∀ W : World, Below w2.heap.size w2 W → W.cell? (ad.add k) = some (sv xs[k])) := fun W hW => by
                  obtain ⟨a1, e1, _, h1⟩ := (HX2.out W hW).at_ (map_at (f := sv) hlt)
                  cases e1
                  exact h1
                have HYL : Hid ((xs.take k).length ≤ 255) := by show _ ≤ _; rw [List.length_take]; omega
                generalize hgx : xs[k] = x at hc HTK HAN HLC
                clear hgx hg e1 e2 e3 e4
                cases x with
                | nil =>
                  have HDEC := Lib.hid (dec_bad (l := l) (n := 3) (HAN.out (by first | rfl | trivial)) (by decide))
                  have H6 := Lib.hid (H2.out.old HN.out.below)
                  have HR := Lib.hid (H6.out.out (.bool false) (.slice none 0 0) (.slice none 0 0) (.slice none 0 0))
                  obtain ⟨r0, r1, r2, r3, f0, f1, f2, f3⟩ := H6.out.cells
                  go_wp2_with fail
                  generalize ((((wr.setCell ⟨w.heap.size, 0, none⟩ (.bool false)).setCell ⟨w.heap.size, 1, none⟩ (.slice none 0 0)).setCell ⟨w.heap.size, 2, none⟩ (.slice none 0 0)).setCell ⟨w.heap.size, 3, none⟩ (.slice none 0 0)) = W5 at HR ⊢
                  obtain ⟨z0, z1, z2, z3, hbl, _⟩ := HR.out
                  refine bodyPost_ret (v := .tuple #[ndV false none 0 0 none 0 0 none 0 0, .bool false]) (by simp [results, Try.results153, go_sem, z0, z1, z2, z3]) rfl ?_
                  exact sr_of (q := ndZ) HDEC.out (NdOwn.zero _ _) hbl
                | cons a r =>
                  generalize xs.take k = ys at *
                  have e1 : ((bs (a :: r)).toList == []) = false := by rw [ByteArray.toList_mk]; rfl
                  have e2 : (bs (a :: r)).extract 1 (r.length + 1) = bs r := by rw [bs_cut]; simp
                  have e3 : (bs (a :: r)).size = r.length + 1 := by simp [ByteArray.size]
                  have hg : (bs (a :: r))[0]'(by omega) = a := rfl
                  have e4 : (1 : Int) ≤ (r.length : Int) + 1 := by omega
                  have ha := a.toNat_lt
                  have e5 : IntKind.i64.wrap (a.toNat : Int) = (a.toNat : Int) := IntWalk.i64_in _ (by omega)
                  go_wp2_with fail
                  clear cb0 cb1 cb2 cb3
                  refine wp_region_noPanic ?_
                  refine wp_region_held_drew (S := (fun w' => w'.cell? (ad.add k) = some (sv (a :: r)))) (by kernel_rfl) ?_ (fun hHeld => ?_)
                  · (try dsimp only)
                    exact HLC.out _ (HN.out.drew).below
                  have HN := Lib.hid HN.out.drew
                  generalize wr.drew = W at HN hHeld ⊢
                  refine wpAnyH_take (i := 0) (oi := ⟨some 102, _, _, _, _, _⟩) (v := ?_) rfl (by kernel_rfl) (by kernel_rfl) (by kernel_rfl) (fun _ _ _ h => h) (Or.inl ⟨by simp [Region.wanted, yielded, undef], ?_⟩) (by assumption) ?_
                  rotate_left
                  · ((intro w hSw; (try dsimp only at hSw); go_simp) <;> with_reducible rfl)
                  (try simp only [Act.put, List.setIfInBounds_toArray, List.set_cons_zero, List.set_cons_succ])
                  refine wpAnyH_take (i := 2) (oi := ⟨some 104, _, _, _, _, _⟩) (v := ?_) rfl (by kernel_rfl) (by kernel_rfl) (by kernel_rfl) (fun _ _ _ h => h) (Or.inl ⟨by simp [Region.wanted, yielded, undef], ?_⟩) (by assumption) ?_
                  rotate_left
                  · ((intro w hSw; (try dsimp only at hSw); go_simp) <;> with_reducible rfl)
                  (try simp only [Act.put, List.setIfInBounds_toArray, List.set_cons_zero, List.set_cons_succ])
                  refine wpAnyH_take (i := 3) (oi := ⟨some 105, _, _, _, _, _⟩) (v := ?_) rfl (by kernel_rfl) (by kernel_rfl) (by kernel_rfl) (fun _ _ _ h => h) (Or.inl ⟨by simp [Region.wanted, yielded, undef], ?_⟩) (by assumption) ?_
                  rotate_left
                  · ((intro w hSw; (try dsimp only at hSw); go_simp) <;> with_reducible rfl)
                  (try simp only [Act.put, List.setIfInBounds_toArray, List.set_cons_zero, List.set_cons_succ])
                  refine wpAnyH_take (i := 4) (oi := ⟨some 106, _, _, _, _, _⟩) (v := ?_) rfl (by kernel_rfl) (by kernel_rfl) (by kernel_rfl) (fun _ _ _ h => h) (Or.inl ⟨by simp [Region.wanted, yielded, undef], ?_⟩) (by assumption) ?_
                  rotate_left
                  · ((intro w hSw; (try dsimp only at hSw); go_simp) <;> with_reducible rfl)
                  (try simp only [Act.put, List.setIfInBounds_toArray, List.set_cons_zero, List.set_cons_succ])
                  refine wpAnyH_take (i := 5) (oi := ⟨some 107, _, _, _, _, _⟩) (v := ?_) rfl (by kernel_rfl) (by kernel_rfl) (by kernel_rfl) (fun _ _ _ h => h) (Or.inl ⟨by simp [Region.wanted, yielded, undef], ?_⟩) (by assumption) ?_
                  rotate_left
                  · ((intro w hSw; (try dsimp only at hSw); go_simp) <;> with_reducible rfl)
                  (try simp only [Act.put, List.setIfInBounds_toArray, List.set_cons_zero, List.set_cons_succ])
                  refine wpAnyH_take (i := 6) (oi := ⟨some 108, _, _, _, _, _⟩) (v := ?_) rfl (by kernel_rfl) (by kernel_rfl) (by kernel_rfl) (fun _ _ _ h => h) (Or.inl ⟨by simp [Region.wanted, yielded, undef], ?_⟩) (by assumption) ?_
                  rotate_left
                  · ((intro w hSw; (try dsimp only at hSw); go_simp) <;> with_reducible rfl)
                  (try simp only [Act.put, List.setIfInBounds_toArray, List.set_cons_zero, List.set_cons_succ])
                  refine wpAnyH_take (i := 7) (oi := ⟨some 109, _, _, _, _, _⟩) (v := ?_) rfl (by kernel_rfl) (by kernel_rfl) (by kernel_rfl) (fun _ _ _ h => h) (Or.inl ⟨by simp [Region.wanted, yielded, undef], ?_⟩) (by assumption) ?_
                  rotate_left
                  · ((intro w hSw; (try dsimp only at hSw); go_simp) <;> with_reducible rfl)
                  (try simp only [Act.put, List.setIfInBounds_toArray, List.set_cons_zero, List.set_cons_succ])
                  refine wpAnyH_ready (rs := [1, 8]) (by kernel_rfl) (by simp) ?_
                  refine (AllReadyH.cons (o := ⟨some 103, _, _, _, _, _⟩) rfl (fun K hK => ?_) (AllReadyH.cons (o := ⟨some 110, _, _, _, _, _⟩) rfl (fun K hK => ?_) AllReadyH.nil))
                  have cx := HN.out.cells.2.2.2
                  go_simp
                  clear cx
                  refine hK.out _ _ ?_ (fun hHeld => ?_)
                  · (try dsimp only)
                    exact HLC.out _ (HN.out).below
                  clear hK K
                  (try simp only [Act.put, List.setIfInBounds_toArray, List.set_cons_zero, List.set_cons_succ])
                  refine wpAnyH_ready (rs := [8]) (by kernel_rfl) (by simp) ?_
                  refine (AllReadyH.cons (o := ⟨some 110, _, _, _, _, _⟩) rfl (fun K hK => ?_) AllReadyH.nil)
                  go_simp
                  refine hK.out _ _ ?_ (fun hHeld => ?_)
                  · (try dsimp only)
                    exact HLC.out _ (HN.out.old ((Below.refl _ _).alloc (Nat.le_refl _) _)).below
                  clear hK K
                  (try simp only [Act.put, List.setIfInBounds_toArray, List.set_cons_zero, List.set_cons_succ])
                  obtain ⟨V, hV⟩ : ∃ V : World, V = W.alloc (.cells #[.int .i64 (a.toNat : Int)] 3) := ⟨_, rfl⟩
                  rw [← hV]
                  have hbW : Below W.heap.size W V := by rw [hV]; exact (Below.refl _ _).alloc (Nat.le_refl _) _
                  have HF : Hid (V.heap[W.heap.size]? = some (.cells #[.int .i64 (a.toNat : Int)] 3 (0, 0))) := by rw [hV]; exact heap_alloc_new _ _
                  have HN := Lib.hid (HN.out.old hbW)
                  clear hV hbW
                  generalize W.heap.size = gpos at HF
                  rename World => W
                  refine wpAnyH_ready (rs := [9]) (by kernel_rfl) (by simp) ?_
                  refine (AllReadyH.cons (o := ⟨some 111, _, _, _, _, _⟩) rfl (fun K hK => ?_) AllReadyH.nil)
                  refine step_push_one elInt rfl _ _ rfl w2.heap.size vK (ksM ys).length ((ksM ys).map ivi) rfl HN.out.k _ [ivi (a.toNat : Int)] HF.out rfl rfl (by simp [Value.oneCell']) (by rw [ksM_len]; have := HYL.out; simp only [maxLen]; omega) (by rw [ksM_len]; have := HYL.out; omega) HN.out.rl ?_
                  intro v6 V hp
                  obtain ⟨Ak, ck, rfl, _⟩ := own_form hp.1
                  refine hK.out _ _ ?_ (fun hHeld => ?_)
                  · (try dsimp only)
                    exact HLC.out _ (HN.out.pushK (z := (a.toNat : Int)) hp).below
                  clear hK K
                  (try simp only [Act.put, List.setIfInBounds_toArray, List.set_cons_zero, List.set_cons_succ])
                  have HN := Lib.hid (HN.out.pushK (z := (a.toNat : Int)) hp)
                  clear hp
                  rename World => W
                  refine wpAnyH_take (i := 10) (oi := ⟨some 112, _, _, _, _, _⟩) (v := ?_) rfl (by kernel_rfl) (by kernel_rfl) (by kernel_rfl) (fun _ _ _ h => h) (Or.inl ⟨by simp [Region.wanted, yielded, undef], ?_⟩) (by assumption) ?_
                  rotate_left
                  · ((intro w hSw; (try dsimp only at hSw); go_simp) <;> with_reducible rfl)
                  (try simp only [Act.put, List.setIfInBounds_toArray, List.set_cons_zero, List.set_cons_succ])
                  refine wpAnyH_ready (rs := [11]) (by kernel_rfl) (by simp) ?_
                  refine (AllReadyH.cons rfl (fun K hK => ?_) AllReadyH.nil)
                  have cx := HN.out.cells.2.2.2
                  have fx := HN.out.froz 3
                  go_simp
                  clear cx fx
                  refine hK.out _ _ ?_ (fun hHeld => ?_)
                  · (try dsimp only)
                    exact HLC.out _ (HN.out.put 3 (.slice Ak ((ksM ys).length + 1) ck) (bP' := vP) (bL' := vL) (bK' := (.slice Ak ((ksM ys).length + 1) ck)) rfl).below
                  clear hK K
                  (try simp only [Act.put, List.setIfInBounds_toArray, List.set_cons_zero, List.set_cons_succ])
                  have HN := Lib.hid (HN.out.put 3 (.slice Ak ((ksM ys).length + 1) ck) (bP' := vP) (bL' := vL) (bK' := (.slice Ak ((ksM ys).length + 1) ck)) rfl)
                  generalize W.setCell ⟨gb, 3, none⟩ (.slice Ak ((ksM ys).length + 1) ck) = V at HN hHeld ⊢
                  rename World => W
                  refine wpAnyH_done (by kernel_rfl) ?_ _
                  refine NoPanic.normal ?_
                  focus
                    go_wp2_with fail
                    refine wp_region_noPanic ?_
                    refine wp_region_held_drew (S := (fun w' => w'.cell? (ad.add k) = some (sv (a :: r)))) (by kernel_rfl) ?_ (fun hHeld => ?_)
                    · (try dsimp only)
                      exact HLC.out _ (HN.out.drew).below
                    have HN := Lib.hid HN.out.drew
                    generalize W.drew = V at HN hHeld ⊢
                    rename World => W
                    refine wpAnyH_take (i := 0) (oi := ⟨some 113, _, _, _, _, _⟩) (v := ?_) rfl (by kernel_rfl) (by kernel_rfl) (by kernel_rfl) (fun _ _ _ h => h) (Or.inl ⟨by simp [Region.wanted, yielded, undef], ?_⟩) (by assumption) ?_
                    rotate_left
                    · ((intro w hSw; (try dsimp only at hSw); go_simp) <;> with_reducible rfl)
                    (try simp only [Act.put, List.setIfInBounds_toArray, List.set_cons_zero, List.set_cons_succ])
                    refine wpAnyH_take (i := 2) (oi := ⟨some 115, _, _, _, _, _⟩) (v := ?_) rfl (by kernel_rfl) (by kernel_rfl) (by kernel_rfl) (fun _ _ _ h => h) (Or.inl ⟨by simp [Region.wanted, yielded, undef], ?_⟩) (by assumption) ?_
                    rotate_left
                    · ((intro w hSw; (try dsimp only at hSw); go_simp) <;> with_reducible rfl)
                    (try simp only [Act.put, List.setIfInBounds_toArray, List.set_cons_zero, List.set_cons_succ])
                    refine wpAnyH_take (i := 3) (oi := ⟨some 116, _, _, _, _, _⟩) (v := ?_) rfl (by kernel_rfl) (by kernel_rfl) (by kernel_rfl) (fun _ _ _ h => h) (Or.inl ⟨by simp [Region.wanted, yielded, undef], ?_⟩) (by assumption) ?_
                    rotate_left
                    · ((intro w hSw; (try dsimp only at hSw); go_simp) <;> with_reducible rfl)
                    (try simp only [Act.put, List.setIfInBounds_toArray, List.set_cons_zero, List.set_cons_succ])
                    refine wpAnyH_take (i := 4) (oi := ⟨some 117, _, _, _, _, _⟩) (v := ?_) rfl (by kernel_rfl) (by kernel_rfl) (by kernel_rfl) (fun _ _ _ h => h) (Or.inl ⟨by simp [Region.wanted, yielded, undef], ?_⟩) (by assumption) ?_
                    rotate_left
                    · ((intro w hSw; (try dsimp only at hSw); go_simp) <;> with_reducible rfl)
                    (try simp only [Act.put, List.setIfInBounds_toArray, List.set_cons_zero, List.set_cons_succ])
                    refine wpAnyH_take (i := 5) (oi := ⟨some 118, _, _, _, _, _⟩) (v := ?_) rfl (by kernel_rfl) (by kernel_rfl) (by kernel_rfl) (fun _ _ _ h => h) (Or.inl ⟨by simp [Region.wanted, yielded, undef], ?_⟩) (by assumption) ?_
                    rotate_left
                    · ((intro w hSw; (try dsimp only at hSw); go_simp) <;> with_reducible rfl)
                    (try simp only [Act.put, List.setIfInBounds_toArray, List.set_cons_zero, List.set_cons_succ])
                    refine wpAnyH_take (i := 6) (oi := ⟨some 119, _, _, _, _, _⟩) (v := ?_) rfl (by kernel_rfl) (by kernel_rfl) (by kernel_rfl) (fun _ _ _ h => h) (Or.inl ⟨by simp [Region.wanted, yielded, undef], ?_⟩) (by assumption) ?_
                    rotate_left
                    · ((intro w hSw; (try dsimp only at hSw); go_simp) <;> with_reducible rfl)
                    (try simp only [Act.put, List.setIfInBounds_toArray, List.set_cons_zero, List.set_cons_succ])
                    refine wpAnyH_ready (rs := [1, 7]) (by kernel_rfl) (by simp) ?_
                    refine (AllReadyH.cons (o := ⟨some 114, _, _, _, _, _⟩) rfl (fun K hK => ?_) (AllReadyH.cons (o := ⟨some 120, _, _, _, _, _⟩) rfl (fun K hK => ?_) AllReadyH.nil))
                    have cx := HN.out.cells.2.2.1
                    go_simp
                    clear cx
                    refine hK.out _ _ ?_ (fun hHeld => ?_)
                    · (try dsimp only)
                      exact HLC.out _ (HN.out).below
                    clear hK K
                    (try simp only [Act.put, List.setIfInBounds_toArray, List.set_cons_zero, List.set_cons_succ])
                    refine wpAnyH_ready (rs := [7]) (by kernel_rfl) (by simp) ?_
                    refine (AllReadyH.cons (o := ⟨some 120, _, _, _, _, _⟩) rfl (fun K hK => ?_) AllReadyH.nil)
                    go_simp
                    refine hK.out _ _ ?_ (fun hHeld => ?_)
                    · (try dsimp only)
                      exact HLC.out _ (HN.out.old ((Below.refl _ _).alloc (Nat.le_refl _) _)).below
                    clear hK K
                    (try simp only [Act.put, List.setIfInBounds_toArray, List.set_cons_zero, List.set_cons_succ])
                    obtain ⟨V, hV⟩ : ∃ V : World, V = W.alloc (.cells #[.string (bs r)] 9) := ⟨_, rfl⟩
                    rw [← hV]
                    have hbW : Below W.heap.size W V := by rw [hV]; exact (Below.refl _ _).alloc (Nat.le_refl _) _
                    have HF : Hid (V.heap[W.heap.size]? = some (.cells #[.string (bs r)] 9 (0, 0))) := by rw [hV]; exact heap_alloc_new _ _
                    have HN := Lib.hid (HN.out.old hbW)
                    clear hV hbW
                    generalize W.heap.size = gpos at HF
                    rename World => W
                    refine wpAnyH_ready (rs := [8]) (by kernel_rfl) (by simp) ?_
                    refine (AllReadyH.cons (o := ⟨some 121, _, _, _, _, _⟩) rfl (fun K hK => ?_) AllReadyH.nil)
                    refine step_push_one elStr rfl _ _ rfl w2.heap.size vL (lsM ys).length ((lsM ys).map Value.string) rfl HN.out.s _ [.string (bs r)] HF.out rfl rfl (by simp [Value.oneCell']) (by rw [lsM_len]; have := HYL.out; simp only [maxLen]; omega) (by rw [lsM_len]; have := HYL.out; omega) HN.out.rl ?_
                    intro v6 V hp
                    obtain ⟨Al, cl, rfl, _⟩ := own_form hp.1
                    refine hK.out _ _ ?_ (fun hHeld => ?_)
                    · (try dsimp only)
                      exact HLC.out _ (HN.out.pushL (x := bs r) hp).below
                    clear hK K
                    (try simp only [Act.put, List.setIfInBounds_toArray, List.set_cons_zero, List.set_cons_succ])
                    have HN := Lib.hid (HN.out.pushL (x := bs r) hp)
                    clear hp
                    rename World => W
                    refine wpAnyH_take (i := 9) (oi := ⟨some 122, _, _, _, _, _⟩) (v := ?_) rfl (by kernel_rfl) (by kernel_rfl) (by kernel_rfl) (fun _ _ _ h => h) (Or.inl ⟨by simp [Region.wanted, yielded, undef], ?_⟩) (by assumption) ?_
                    rotate_left
                    · ((intro w hSw; (try dsimp only at hSw); go_simp) <;> with_reducible rfl)
                    (try simp only [Act.put, List.setIfInBounds_toArray, List.set_cons_zero, List.set_cons_succ])
                    refine wpAnyH_ready (rs := [10]) (by kernel_rfl) (by simp) ?_
                    refine (AllReadyH.cons rfl (fun K hK => ?_) AllReadyH.nil)
                    have cx := HN.out.cells.2.2.1
                    have fx := HN.out.froz 2
                    go_simp
                    clear cx fx
                    refine hK.out _ _ ?_ (fun hHeld => ?_)
                    · (try dsimp only)
                      exact HLC.out _ (HN.out.put 2 (.slice Al ((lsM ys).length + 1) cl) (bP' := vP) (bL' := (.slice Al ((lsM ys).length + 1) cl)) (bK' := (.slice Ak ((ksM ys).length + 1) ck)) rfl).below
                    clear hK K
                    (try simp only [Act.put, List.setIfInBounds_toArray, List.set_cons_zero, List.set_cons_succ])
                    have HN := Lib.hid (HN.out.put 2 (.slice Al ((lsM ys).length + 1) cl) (bP' := vP) (bL' := (.slice Al ((lsM ys).length + 1) cl)) (bK' := (.slice Ak ((ksM ys).length + 1) ck)) rfl)
                    generalize W.setCell ⟨gb, 2, none⟩ (.slice Al ((lsM ys).length + 1) cl) = V at HN hHeld ⊢
                    rename World => W
                    refine wpAnyH_done (by kernel_rfl) ?_ _
                    refine NoPanic.normal ?_
                    focus
                      go_wp2_with fail
                      go_roundw
                      case rel =>
                        refine ⟨k + 1, vP, (.slice Al ((lsM ys).length + 1) cl), (.slice Ak ((ksM ys).length + 1) ck), by omega, by go_num, ?_, ?_⟩
                        · rw [HTK.out, List.any_append, HYE.out]; rfl
                        · rw [HTK.out, lsM_snoc, ksM_snoc]
                          exact HN.out
                      case measure => simp [intOf]; omega
                    go_simp
                    refine hK.out _ _ ?_ (fun hHeld => ?_)
                    · (try dsimp only)
                      exact HLC.out _ (HN.out.old ((Below.refl _ _).alloc (Nat.le_refl _) _)).below
                    clear hK K
                    (try simp only [Act.put, List.setIfInBounds_toArray, List.set_cons_zero, List.set_cons_succ])
                    obtain ⟨V, hV⟩ : ∃ V : World, V = W.alloc (.cells #[.string (bs r)] 9) := ⟨_, rfl⟩
                    rw [← hV]
                    have hbW : Below W.heap.size W V := by rw [hV]; exact (Below.refl _ _).alloc (Nat.le_refl _) _
                    have HF : Hid (V.heap[W.heap.size]? = some (.cells #[.string (bs r)] 9 (0, 0))) := by rw [hV]; exact heap_alloc_new _ _
                    have HN := Lib.hid (HN.out.old hbW)
                    clear hV hbW
                    generalize W.heap.size = gpos at HF
                    rename World => W
                    refine wpAnyH_ready (rs := [1]) (by kernel_rfl) (by simp) ?_
                    refine (AllReadyH.cons (o := ⟨some 114, _, _, _, _, _⟩) rfl (fun K hK => ?_) AllReadyH.nil)
                    have cx := HN.out.cells.2.2.1
                    go_simp
                    clear cx
                    refine hK.out _ _ ?_ (fun hHeld => ?_)
                    · (try dsimp only)
                      exact HLC.out _ (HN.out).below
                    clear hK K
                    (try simp only [Act.put, List.setIfInBounds_toArray, List.set_cons_zero, List.set_cons_succ])
                    refine wpAnyH_ready (rs := [8]) (by kernel_rfl) (by simp) ?_
                    refine (AllReadyH.cons (o := ⟨some 121, _, _, _, _, _⟩) rfl (fun K hK => ?_) AllReadyH.nil)
                    refine step_push_one elStr rfl _ _ rfl w2.heap.size vL (lsM ys).length ((lsM ys).map Value.string) rfl HN.out.s _ [.string (bs r)] HF.out rfl rfl (by simp [Value.oneCell']) (by rw [lsM_len]; have := HYL.out; simp only [maxLen]; omega) (by rw [lsM_len]; have := HYL.out; omega) HN.out.rl ?_
                    intro v6 V hp
                    obtain ⟨Al, cl, rfl, _⟩ := own_form hp.1
                    refine hK.out _ _ ?_ (fun hHeld => ?_)
                    · (try dsimp only)
                      exact HLC.out _ (HN.out.pushL (x := bs r) hp).below
                    clear hK K
                    (try simp only [Act.put, List.setIfInBounds_toArray, List.set_cons_zero, List.set_cons_succ])
                    have HN := Lib.hid (HN.out.pushL (x := bs r) hp)
                    clear hp
                    rename World => W
                    refine wpAnyH_take (i := 9) (oi := ⟨some 122, _, _, _, _, _⟩) (v := ?_) rfl (by kernel_rfl) (by kernel_rfl) (by kernel_rfl) (fun _ _ _ h => h) (Or.inl ⟨by simp [Region.wanted, yielded, undef], ?_⟩) (by assumption) ?_
                    rotate_left
                    · ((intro w hSw; (try dsimp only at hSw); go_simp) <;> with_reducible rfl)
                    (try simp only [Act.put, List.setIfInBounds_toArray, List.set_cons_zero, List.set_cons_succ])
                    refine wpAnyH_ready (rs := [10]) (by kernel_rfl) (by simp) ?_
                    refine (AllReadyH.cons rfl (fun K hK => ?_) AllReadyH.nil)
                    have cx := HN.out.cells.2.2.1
                    have fx := HN.out.froz 2
                    go_simp
                    clear cx fx
                    refine hK.out _ _ ?_ (fun hHeld => ?_)
                    · (try dsimp only)
                      exact HLC.out _ (HN.out.put 2 (.slice Al ((lsM ys).length + 1) cl) (bP' := vP) (bL' := (.slice Al ((lsM ys).length + 1) cl)) (bK' := (.slice Ak ((ksM ys).length + 1) ck)) rfl).below
                    clear hK K
                    (try simp only [Act.put, List.setIfInBounds_toArray, List.set_cons_zero, List.set_cons_succ])
                    have HN := Lib.hid (HN.out.put 2 (.slice Al ((lsM ys).length + 1) cl) (bP' := vP) (bL' := (.slice Al ((lsM ys).length + 1) cl)) (bK' := (.slice Ak ((ksM ys).length + 1) ck)) rfl)
                    generalize W.setCell ⟨gb, 2, none⟩ (.slice Al ((lsM ys).length + 1) cl) = V at HN hHeld ⊢
                    rename World => W
                    refine wpAnyH_done (by kernel_rfl) ?_ _
                    refine NoPanic.normal ?_
                    focus
                      go_wp2_with fail
                      go_roundw
                      case rel =>
                        refine ⟨k + 1, vP, (.slice Al ((lsM ys).length + 1) cl), (.slice Ak ((ksM ys).length + 1) ck), by omega, by go_num, ?_, ?_⟩
                        · rw [HTK.out, List.any_append, HYE.out]; rfl
                        · rw [HTK.out, lsM_snoc, ksM_snoc]
                          exact HN.out
                      case measure => simp [intOf]; omega
                  go_simp
                  refine hK.out _ _ ?_ (fun hHeld => ?_)
                  · (try dsimp only)
                    exact HLC.out _ (HN.out.old ((Below.refl _ _).alloc (Nat.le_refl _) _)).below
                  clear hK K
                  (try simp only [Act.put, List.setIfInBounds_toArray, List.set_cons_zero, List.set_cons_succ])
                  obtain ⟨V, hV⟩ : ∃ V : World, V = W.alloc (.cells #[.int .i64 (a.toNat : Int)] 3) := ⟨_, rfl⟩
                  rw [← hV]
                  have hbW : Below W.heap.size W V := by rw [hV]; exact (Below.refl _ _).alloc (Nat.le_refl _) _
                  have HF : Hid (V.heap[W.heap.size]? = some (.cells #[.int .i64 (a.toNat : Int)] 3 (0, 0))) := by rw [hV]; exact heap_alloc_new _ _
                  have HN := Lib.hid (HN.out.old hbW)
                  clear hV hbW
                  generalize W.heap.size = gpos at HF
                  rename World => W
                  refine wpAnyH_ready (rs := [1]) (by kernel_rfl) (by simp) ?_
                  refine (AllReadyH.cons (o := ⟨some 103, _, _, _, _, _⟩) rfl (fun K hK => ?_) AllReadyH.nil)
                  have cx := HN.out.cells.2.2.2
                  go_simp
                  clear cx
                  refine hK.out _ _ ?_ (fun hHeld => ?_)
                  · (try dsimp only)
                    exact HLC.out _ (HN.out).below
                  clear hK K
                  (try simp only [Act.put, List.setIfInBounds_toArray, List.set_cons_zero, List.set_cons_succ])
                  refine wpAnyH_ready (rs := [9]) (by kernel_rfl) (by simp) ?_
                  refine (AllReadyH.cons (o := ⟨some 111, _, _, _, _, _⟩) rfl (fun K hK => ?_) AllReadyH.nil)
                  refine step_push_one elInt rfl _ _ rfl w2.heap.size vK (ksM ys).length ((ksM ys).map ivi) rfl HN.out.k _ [ivi (a.toNat : Int)] HF.out rfl rfl (by simp [Value.oneCell']) (by rw [ksM_len]; have := HYL.out; simp only [maxLen]; omega) (by rw [ksM_len]; have := HYL.out; omega) HN.out.rl ?_
                  intro v6 V hp
                  obtain ⟨Ak, ck, rfl, _⟩ := own_form hp.1
                  refine hK.out _ _ ?_ (fun hHeld => ?_)
                  · (try dsimp only)
                    exact HLC.out _ (HN.out.pushK (z := (a.toNat : Int)) hp).below
                  clear hK K
                  (try simp only [Act.put, List.setIfInBounds_toArray, List.set_cons_zero, List.set_cons_succ])
                  have HN := Lib.hid (HN.out.pushK (z := (a.toNat : Int)) hp)
                  clear hp
                  rename World => W
                  refine wpAnyH_take (i := 10) (oi := ⟨some 112, _, _, _, _, _⟩) (v := ?_) rfl (by kernel_rfl) (by kernel_rfl) (by kernel_rfl) (fun _ _ _ h => h) (Or.inl ⟨by simp [Region.wanted, yielded, undef], ?_⟩) (by assumption) ?_
                  rotate_left
                  · ((intro w hSw; (try dsimp only at hSw); go_simp) <;> with_reducible rfl)
                  (try simp only [Act.put, List.setIfInBounds_toArray, List.set_cons_zero, List.set_cons_succ])
                  refine wpAnyH_ready (rs := [11]) (by kernel_rfl) (by simp) ?_
                  refine (AllReadyH.cons rfl (fun K hK => ?_) AllReadyH.nil)
                  have cx := HN.out.cells.2.2.2
                  have fx := HN.out.froz 3
                  go_simp
                  clear cx fx
                  refine hK.out _ _ ?_ (fun hHeld => ?_)
                  · (try dsimp only)
                    exact HLC.out _ (HN.out.put 3 (.slice Ak ((ksM ys).length + 1) ck) (bP' := vP) (bL' := vL) (bK' := (.slice Ak ((ksM ys).length + 1) ck)) rfl).below
                  clear hK K
                  (try simp only [Act.put, List.setIfInBounds_toArray, List.set_cons_zero, List.set_cons_succ])
                  have HN := Lib.hid (HN.out.put 3 (.slice Ak ((ksM ys).length + 1) ck) (bP' := vP) (bL' := vL) (bK' := (.slice Ak ((ksM ys).length + 1) ck)) rfl)
                  generalize W.setCell ⟨gb, 3, none⟩ (.slice Ak ((ksM ys).length + 1) ck) = V at HN hHeld ⊢
                  rename World => W
                  refine wpAnyH_done (by kernel_rfl) ?_ _
                  refine NoPanic.normal ?_
                  focus
                    go_wp2_with fail
                    refine wp_region_noPanic ?_
                    refine wp_region_held_drew (S := (fun w' => w'.cell? (ad.add k) = some (sv (a :: r)))) (by kernel_rfl) ?_ (fun hHeld => ?_)
                    · (try dsimp only)
                      exact HLC.out _ (HN.out.drew).below
                    have HN := Lib.hid HN.out.drew
                    generalize W.drew = V at HN hHeld ⊢
                    rename World => W
                    refine wpAnyH_take (i := 0) (oi := ⟨some 113, _, _, _, _, _⟩) (v := ?_) rfl (by kernel_rfl) (by kernel_rfl) (by kernel_rfl) (fun _ _ _ h => h) (Or.inl ⟨by simp [Region.wanted, yielded, undef], ?_⟩) (by assumption) ?_
                    rotate_left
                    · ((intro w hSw; (try dsimp only at hSw); go_simp) <;> with_reducible rfl)
                    (try simp only [Act.put, List.setIfInBounds_toArray, List.set_cons_zero, List.set_cons_succ])
                    refine wpAnyH_take (i := 2) (oi := ⟨some 115, _, _, _, _, _⟩) (v := ?_) rfl (by kernel_rfl) (by kernel_rfl) (by kernel_rfl) (fun _ _ _ h => h) (Or.inl ⟨by simp [Region.wanted, yielded, undef], ?_⟩) (by assumption) ?_
                    rotate_left
                    · ((intro w hSw; (try dsimp only at hSw); go_simp) <;> with_reducible rfl)
                    (try simp only [Act.put, List.setIfInBounds_toArray, List.set_cons_zero, List.set_cons_succ])
                    refine wpAnyH_take (i := 3) (oi := ⟨some 116, _, _, _, _, _⟩) (v := ?_) rfl (by kernel_rfl) (by kernel_rfl) (by kernel_rfl) (fun _ _ _ h => h) (Or.inl ⟨by simp [Region.wanted, yielded, undef], ?_⟩) (by assumption) ?_
                    rotate_left
                    · ((intro w hSw; (try dsimp only at hSw); go_simp) <;> with_reducible rfl)
                    (try simp only [Act.put, List.setIfInBounds_toArray, List.set_cons_zero, List.set_cons_succ])
                    refine wpAnyH_take (i := 4) (oi := ⟨some 117, _, _, _, _, _⟩) (v := ?_) rfl (by kernel_rfl) (by kernel_rfl) (by kernel_rfl) (fun _ _ _ h => h) (Or.inl ⟨by simp [Region.wanted, yielded, undef], ?_⟩) (by assumption) ?_
                    rotate_left
                    · ((intro w hSw; (try dsimp only at hSw); go_simp) <;> with_reducible rfl)
                    (try simp only [Act.put, List.setIfInBounds_toArray, List.set_cons_zero, List.set_cons_succ])
                    refine wpAnyH_take (i := 5) (oi := ⟨some 118, _, _, _, _, _⟩) (v := ?_) rfl (by kernel_rfl) (by kernel_rfl) (by kernel_rfl) (fun _ _ _ h => h) (Or.inl ⟨by simp [Region.wanted, yielded, undef], ?_⟩) (by assumption) ?_
                    rotate_left
                    · ((intro w hSw; (try dsimp only at hSw); go_simp) <;> with_reducible rfl)
                    (try simp only [Act.put, List.setIfInBounds_toArray, List.set_cons_zero, List.set_cons_succ])
                    refine wpAnyH_take (i := 6) (oi := ⟨some 119, _, _, _, _, _⟩) (v := ?_) rfl (by kernel_rfl) (by kernel_rfl) (by kernel_rfl) (fun _ _ _ h => h) (Or.inl ⟨by simp [Region.wanted, yielded, undef], ?_⟩) (by assumption) ?_
                    rotate_left
                    · ((intro w hSw; (try dsimp only at hSw); go_simp) <;> with_reducible rfl)
                    (try simp only [Act.put, List.setIfInBounds_toArray, List.set_cons_zero, List.set_cons_succ])
                    refine wpAnyH_ready (rs := [1, 7]) (by kernel_rfl) (by simp) ?_
                    refine (AllReadyH.cons (o := ⟨some 114, _, _, _, _, _⟩) rfl (fun K hK => ?_) (AllReadyH.cons (o := ⟨some 120, _, _, _, _, _⟩) rfl (fun K hK => ?_) AllReadyH.nil))
                    have cx := HN.out.cells.2.2.1
                    go_simp
                    clear cx
                    refine hK.out _ _ ?_ (fun hHeld => ?_)
                    · (try dsimp only)
                      exact HLC.out _ (HN.out).below
                    clear hK K
                    (try simp only [Act.put, List.setIfInBounds_toArray, List.set_cons_zero, List.set_cons_succ])
                    refine wpAnyH_ready (rs := [7]) (by kernel_rfl) (by simp) ?_
                    refine (AllReadyH.cons (o := ⟨some 120, _, _, _, _, _⟩) rfl (fun K hK => ?_) AllReadyH.nil)
                    go_simp
                    refine hK.out _ _ ?_ (fun hHeld => ?_)
                    · (try dsimp only)
                      exact HLC.out _ (HN.out.old ((Below.refl _ _).alloc (Nat.le_refl _) _)).below
                    clear hK K
                    (try simp only [Act.put, List.setIfInBounds_toArray, List.set_cons_zero, List.set_cons_succ])
                    obtain ⟨V, hV⟩ : ∃ V : World, V = W.alloc (.cells #[.string (bs r)] 9) := ⟨_, rfl⟩
                    rw [← hV]
                    have hbW : Below W.heap.size W V := by rw [hV]; exact (Below.refl _ _).alloc (Nat.le_refl _) _
                    have HF : Hid (V.heap[W.heap.size]? = some (.cells #[.string (bs r)] 9 (0, 0))) := by rw [hV]; exact heap_alloc_new _ _
                    have HN := Lib.hid (HN.out.old hbW)
                    clear hV hbW
                    generalize W.heap.size = gpos at HF
                    rename World => W
                    refine wpAnyH_ready (rs := [8]) (by kernel_rfl) (by simp) ?_
                    refine (AllReadyH.cons (o := ⟨some 121, _, _, _, _, _⟩) rfl (fun K hK => ?_) AllReadyH.nil)
                    refine step_push_one elStr rfl _ _ rfl w2.heap.size vL (lsM ys).length ((lsM ys).map Value.string) rfl HN.out.s _ [.string (bs r)] HF.out rfl rfl (by simp [Value.oneCell']) (by rw [lsM_len]; have := HYL.out; simp only [maxLen]; omega) (by rw [lsM_len]; have := HYL.out; omega) HN.out.rl ?_
                    intro v6 V hp
                    obtain ⟨Al, cl, rfl, _⟩ := own_form hp.1
                    refine hK.out _ _ ?_ (fun hHeld => ?_)
                    · (try dsimp only)
                      exact HLC.out _ (HN.out.pushL (x := bs r) hp).below
                    clear hK K
                    (try simp only [Act.put, List.setIfInBounds_toArray, List.set_cons_zero, List.set_cons_succ])
                    have HN := Lib.hid (HN.out.pushL (x := bs r) hp)
                    clear hp
                    rename World => W
                    refine wpAnyH_take (i := 9) (oi := ⟨some 122, _, _, _, _, _⟩) (v := ?_) rfl (by kernel_rfl) (by kernel_rfl) (by kernel_rfl) (fun _ _ _ h => h) (Or.inl ⟨by simp [Region.wanted, yielded, undef], ?_⟩) (by assumption) ?_
                    rotate_left
                    · ((intro w hSw; (try dsimp only at hSw); go_simp) <;> with_reducible rfl)
                    (try simp only [Act.put, List.setIfInBounds_toArray, List.set_cons_zero, List.set_cons_succ])
                    refine wpAnyH_ready (rs := [10]) (by kernel_rfl) (by simp) ?_
                    refine (AllReadyH.cons rfl (fun K hK => ?_) AllReadyH.nil)
                    have cx := HN.out.cells.2.2.1
                    have fx := HN.out.froz 2
                    go_simp
                    clear cx fx
                    refine hK.out _ _ ?_ (fun hHeld => ?_)
                    · (try dsimp only)
                      exact HLC.out _ (HN.out.put 2 (.slice Al ((lsM ys).length + 1) cl) (bP' := vP) (bL' := (.slice Al ((lsM ys).length + 1) cl)) (bK' := (.slice Ak ((ksM ys).length + 1) ck)) rfl).below
                    clear hK K
                    (try simp only [Act.put, List.setIfInBounds_toArray, List.set_cons_zero, List.set_cons_succ])
                    have HN := Lib.hid (HN.out.put 2 (.slice Al ((lsM ys).length + 1) cl) (bP' := vP) (bL' := (.slice Al ((lsM ys).length + 1) cl)) (bK' := (.slice Ak ((ksM ys).length + 1) ck)) rfl)
                    generalize W.setCell ⟨gb, 2, none⟩ (.slice Al ((lsM ys).length + 1) cl) = V at HN hHeld ⊢
                    rename World => W
                    refine wpAnyH_done (by kernel_rfl) ?_ _
                    refine NoPanic.normal ?_
                    focus
                      go_wp2_with fail
                      go_roundw
                      case rel =>
                        refine ⟨k + 1, vP, (.slice Al ((lsM ys).length + 1) cl), (.slice Ak ((ksM ys).length + 1) ck), by omega, by go_num, ?_, ?_⟩
                        · rw [HTK.out, List.any_append, HYE.out]; rfl
                        · rw [HTK.out, lsM_snoc, ksM_snoc]
                          exact HN.out
                      case measure => simp [intOf]; omega
                    go_simp
                    refine hK.out _ _ ?_ (fun hHeld => ?_)
                    · (try dsimp only)
                      exact HLC.out _ (HN.out.old ((Below.refl _ _).alloc (Nat.le_refl _) _)).below
                    clear hK K
                    (try simp only [Act.put, List.setIfInBounds_toArray, List.set_cons_zero, List.set_cons_succ])
                    obtain ⟨V, hV⟩ : ∃ V : World, V = W.alloc (.cells #[.string (bs r)] 9) := ⟨_, rfl⟩
                    rw [← hV]
                    have hbW : Below W.heap.size W V := by rw [hV]; exact (Below.refl _ _).alloc (Nat.le_refl _) _
                    have HF : Hid (V.heap[W.heap.size]? = some (.cells #[.string (bs r)] 9 (0, 0))) := by rw [hV]; exact heap_alloc_new _ _
                    have HN := Lib.hid (HN.out.old hbW)
                    clear hV hbW
                    generalize W.heap.size = gpos at HF
                    rename World => W
                    refine wpAnyH_ready (rs := [1]) (by kernel_rfl) (by simp) ?_
                    refine (AllReadyH.cons (o := ⟨some 114, _, _, _, _, _⟩) rfl (fun K hK => ?_) AllReadyH.nil)
                    have cx := HN.out.cells.2.2.1
                    go_simp
                    clear cx
                    refine hK.out _ _ ?_ (fun hHeld => ?_)
                    · (try dsimp only)
                      exact HLC.out _ (HN.out).below
                    clear hK K
                    (try simp only [Act.put, List.setIfInBounds_toArray, List.set_cons_zero, List.set_cons_succ])
                    refine wpAnyH_ready (rs := [8]) (by kernel_rfl) (by simp) ?_
                    refine (AllReadyH.cons (o := ⟨some 121, _, _, _, _, _⟩) rfl (fun K hK => ?_) AllReadyH.nil)
                    refine step_push_one elStr rfl _ _ rfl w2.heap.size vL (lsM ys).length ((lsM ys).map Value.string) rfl HN.out.s _ [.string (bs r)] HF.out rfl rfl (by simp [Value.oneCell']) (by rw [lsM_len]; have := HYL.out; simp only [maxLen]; omega) (by rw [lsM_len]; have := HYL.out; omega) HN.out.rl ?_
                    intro v6 V hp
                    obtain ⟨Al, cl, rfl, _⟩ := own_form hp.1
                    refine hK.out _ _ ?_ (fun hHeld => ?_)
                    · (try dsimp only)
                      exact HLC.out _ (HN.out.pushL (x := bs r) hp).below
                    clear hK K
                    (try simp only [Act.put, List.setIfInBounds_toArray, List.set_cons_zero, List.set_cons_succ])
                    have HN := Lib.hid (HN.out.pushL (x := bs r) hp)
                    clear hp
                    rename World => W
                    refine wpAnyH_take (i := 9) (oi := ⟨some 122, _, _, _, _, _⟩) (v := ?_) rfl (by kernel_rfl) (by kernel_rfl) (by kernel_rfl) (fun _ _ _ h => h) (Or.inl ⟨by simp [Region.wanted, yielded, undef], ?_⟩) (by assumption) ?_
                    rotate_left
                    · ((intro w hSw; (try dsimp only at hSw); go_simp) <;> with_reducible rfl)
                    (try simp only [Act.put, List.setIfInBounds_toArray, List.set_cons_zero, List.set_cons_succ])
                    refine wpAnyH_ready (rs := [10]) (by kernel_rfl) (by simp) ?_
                    refine (AllReadyH.cons rfl (fun K hK => ?_) AllReadyH.nil)
                    have cx := HN.out.cells.2.2.1
                    have fx := HN.out.froz 2
                    go_simp
                    clear cx fx
                    refine hK.out _ _ ?_ (fun hHeld => ?_)
                    · (try dsimp only)
                      exact HLC.out _ (HN.out.put 2 (.slice Al ((lsM ys).length + 1) cl) (bP' := vP) (bL' := (.slice Al ((lsM ys).length + 1) cl)) (bK' := (.slice Ak ((ksM ys).length + 1) ck)) rfl).below
                    clear hK K
                    (try simp only [Act.put, List.setIfInBounds_toArray, List.set_cons_zero, List.set_cons_succ])
                    have HN := Lib.hid (HN.out.put 2 (.slice Al ((lsM ys).length + 1) cl) (bP' := vP) (bL' := (.slice Al ((lsM ys).length + 1) cl)) (bK' := (.slice Ak ((ksM ys).length + 1) ck)) rfl)
                    generalize W.setCell ⟨gb, 2, none⟩ (.slice Al ((lsM ys).length + 1) cl) = V at HN hHeld ⊢
                    rename World => W
                    refine wpAnyH_done (by kernel_rfl) ?_ _
                    refine NoPanic.normal ?_
                    focus
                      go_wp2_with fail
                      go_roundw
                      case rel =>
                        refine ⟨k + 1, vP, (.slice Al ((lsM ys).length + 1) cl), (.slice Ak ((ksM ys).length + 1) ck), by omega, by go_num, ?_, ?_⟩
                        · rw [HTK.out, List.any_append, HYE.out]; rfl
                        · rw [HTK.out, lsM_snoc, ksM_snoc]
                          exact HN.out
                      case measure => simp [intOf]; omega
              · have ht : xs.take k = xs := List.take_of_length_le (by omega)
                rw [ht] at HN HYE
                clear ht
                obtain ⟨A1, n1, e1', _⟩ := own_form HN.out.p
                obtain ⟨A3, n2, e2', _⟩ := own_form HN.out.s
                obtain ⟨A4, n3, e3', _⟩ := own_form HN.out.k
                have e1'' : vP = .slice A1 0 n1 := e1'
                subst e1'' e2' e3'
                have HLZ := Lib.hid (ls_sz HSZ.out)
                obtain ⟨b, hb⟩ : ∃ b, innerB (lsM xs) (ksM xs) = b := ⟨_, rfl⟩
                have HDEC : Hid (decide ((rdNd l).2 = 0) = b ∧ ((rdNd l).2 = 0 → (⟨false, [], lsM xs, ksM xs⟩ : Nd) = (rdNd l).1)) := by
                  show _ ∧ _
                  have ho : okNd false xs = b := by
                    unfold okNd
                    rw [if_neg (by simp), HYE.out, ← hb]
                    unfold innerB
                    rw [ksM_len, decide_eq_false h0]
                    rfl
                  rw [HQX.out, ho]
                  cases b
                  · exact ⟨rfl, fun h => by simp at h⟩
                  · exact ⟨rfl, fun _ => rfl⟩
                have HB := Lib.hid hb
                clear hb
                go_wp2_with fail
                refine wp_region_noPanic ?_
                refine wp_region_held_drew (S := (fun w' => w'.cell? ⟨gb, 0, none⟩ = some (.bool false) ∧ w'.cell? ⟨gb, 1, none⟩ = some (.slice A1 0 n1) ∧ w'.cell? ⟨gb, 2, none⟩ = some (.slice A3 (lsM xs).length n2) ∧ w'.cell? ⟨gb, 3, none⟩ = some (.slice A4 (ksM xs).length n3))) (by kernel_rfl) ?_ (fun hHeld => ?_)
                · (try dsimp only)
                  exact nd_cells HN.out.drew.box
                have HN := Lib.hid HN.out.drew
                generalize wr.drew = W at HN hHeld ⊢
                refine wpAnyH_take (i := 0) (oi := ⟨some 123, _, _, _, _, _⟩) (v := ?_) rfl (by kernel_rfl) (by kernel_rfl) (by kernel_rfl) (fun _ _ _ h => h) (Or.inl ⟨by simp [Region.wanted, yielded, undef], ?_⟩) (by assumption) ?_
                rotate_left
                · ((intro w hSw; (try dsimp only at hSw); go_simp) <;> with_reducible rfl)
                (try simp only [Act.put, List.setIfInBounds_toArray, List.set_cons_zero, List.set_cons_succ])
                refine wpAnyH_take (i := 1) (oi := ⟨some 124, _, _, _, _, _⟩) (v := ?_) rfl (by kernel_rfl) (by kernel_rfl) (by kernel_rfl) (fun _ _ _ h => h) (Or.inl ⟨by simp [Region.wanted, yielded, undef], ?_⟩) (by assumption) ?_
                rotate_left
                · ((intro w hSw; (try dsimp only at hSw); go_simp) <;> with_reducible rfl)
                (try simp only [Act.put, List.setIfInBounds_toArray, List.set_cons_zero, List.set_cons_succ])
                refine wpAnyH_ready (rs := [2]) (by kernel_rfl) (by simp) ?_
                refine (AllReadyH.cons (o := ⟨some 125, _, _, _, _, _⟩) rfl (fun K hK => ?_) AllReadyH.nil)
                go_simp
                refine (snodeOK_inner A1 A3 A4 n1 n2 n3 (lsM xs) (ksM xs) W (Rd.own HN.out.s) (Rd.own HN.out.k) (by rw [lsM_len, ksM_len]) (by rw [ksM_len]; omega) HLZ.out).mono ?_
                rw [show _ = b from HB.out]
                rintro e V ⟨rfl, hb2⟩
                go_wp2_with fail
                refine hK.out _ _ ?_ (fun hHeld => ?_)
                · (try dsimp only)
                  exact nd_cells (HN.out.old hb2).box
                clear hK K
                (try simp only [Act.put, List.setIfInBounds_toArray, List.set_cons_zero, List.set_cons_succ])
                have HN := Lib.hid (HN.out.old hb2)
                clear hb2
                rename World => W
                refine wpAnyH_ready (rs := [3]) (by kernel_rfl) (by simp) ?_
                refine (AllReadyH.cons rfl (fun K hK => ?_) AllReadyH.nil)
                obtain ⟨r0, r1, r2, r3, rf0, rf1, rf2, rf3⟩ := (H2.out.old HN.out.below).cells
                go_simp
                clear r0 r1 r2 r3 rf0 rf1 rf2 rf3
                refine hK.out _ _ ?_ (fun hHeld => ?_)
                · (try dsimp only)
                  exact nd_cells (HN.out.past hw2 (.bool false) (.slice A1 0 n1) (.slice A3 (lsM xs).length n2) (.slice A4 (ksM xs).length n3))
                clear hK K
                (try simp only [Act.put, List.setIfInBounds_toArray, List.set_cons_zero, List.set_cons_succ])
                have HR := Lib.hid ((H2.out.old HN.out.below).out (.bool false) (.slice A1 0 n1) (.slice A3 (lsM xs).length n2) (.slice A4 (ksM xs).length n3))
                generalize ((((W.setCell ⟨w.heap.size, 0, none⟩ (.bool false)).setCell ⟨w.heap.size, 1, none⟩ (.slice A1 0 n1)).setCell ⟨w.heap.size, 2, none⟩ (.slice A3 (lsM xs).length n2)).setCell ⟨w.heap.size, 3, none⟩ (.slice A4 (ksM xs).length n3)) = W5 at HR hHeld ⊢
                refine wpAnyH_take (i := 4) (oi := ⟨some 3, _, _, _, _, _⟩) (v := ?_) rfl (by kernel_rfl) (by kernel_rfl) (by kernel_rfl) (fun _ _ _ h => h) (Or.inl ⟨by simp [Region.wanted, yielded, undef], ?_⟩) (by assumption) ?_
                rotate_left
                · ((intro w hSw; (try dsimp only at hSw); go_simp) <;> with_reducible rfl)
                (try simp only [Act.put, List.setIfInBounds_toArray, List.set_cons_zero, List.set_cons_succ])
                refine wpAnyH_done (by kernel_rfl) ?_ _
                refine NoPanic.normal ?_
                go_wp2_with fail
                obtain ⟨z0, z1, z2, z3, hbl, hrow⟩ := HR.out
                refine bodyPost_ret (v := .tuple #[ndV false A1 0 n1 A3 (lsM xs).length n2 A4 (ksM xs).length n3, .bool b]) (by simp [results, Try.results153, go_sem, z0, z1, z2, z3]) rfl ?_
                exact sr_of (q := ⟨false, [], lsM xs, ksM xs⟩) HDEC.out (hrow (NdOwn.mono ⟨HN.out.p, HN.out.s, HN.out.k⟩ (Nat.le_of_lt hw2))) hbl
        · have q105 : ((a.toNat : Int) != 105) = true := by rw [bne_iff_ne]; intro e; exact ha5 (UInt8.toNat_inj.1 (by show a.toNat = 105; omega))
          have HDEC := Lib.hid (dec_bad (l := l) (n := 3) (by unfold rdNd; rw [HU.out]; simp only []; rw [if_neg (by rintro (e | e); exact ha8 e; exact ha5 e)]) (by decide))
          clear ha8 ha5
          have H5N := Lib.hid (nc_start w2 false)
          cases ok
          · have H5 := Lib.hid (H2.out.old H5N.out.below)
            have HR := Lib.hid (H5.out.out (.bool false) (.slice none 0 0) (.slice none 0 0) (.slice none 0 0))
            obtain ⟨r0, r1, r2, r3, f0, f1, f2, f3⟩ := H5.out.cells
            go_wp2_with fail
            generalize ((((((((w2.alloc (.cells #[] 82)).alloc (.cells #[] 9)).alloc (.cells #[] 3)).alloc (.cells #[.bool false, .slice (some ⟨w2.heap.size, 0, none⟩) 0 0, .slice (some ⟨w2.heap.size + 1, 0, none⟩) 0 0, .slice (some ⟨w2.heap.size + 1 + 1, 0, none⟩) 0 0] 96)).setCell ⟨w.heap.size, 0, none⟩ (.bool false)).setCell ⟨w.heap.size, 1, none⟩ (.slice none 0 0)).setCell ⟨w.heap.size, 2, none⟩ (.slice none 0 0)).setCell ⟨w.heap.size, 3, none⟩ (.slice none 0 0)) = W5 at HR ⊢
            obtain ⟨z0, z1, z2, z3, hbl, _⟩ := HR.out
            refine bodyPost_ret (v := .tuple #[ndV false none 0 0 none 0 0 none 0 0, .bool false]) (by simp [results, Try.results153, go_sem, z0, z1, z2, z3]) rfl ?_
            exact sr_of (q := ndZ) HDEC.out (NdOwn.zero _ _) hbl
          · have H5 := Lib.hid (H2.out.old H5N.out.below)
            have HR := Lib.hid (H5.out.out (.bool false) (.slice none 0 0) (.slice none 0 0) (.slice none 0 0))
            obtain ⟨r0, r1, r2, r3, f0, f1, f2, f3⟩ := H5.out.cells
            go_wp2_with fail
            generalize ((((((((w2.alloc (.cells #[] 82)).alloc (.cells #[] 9)).alloc (.cells #[] 3)).alloc (.cells #[.bool false, .slice (some ⟨w2.heap.size, 0, none⟩) 0 0, .slice (some ⟨w2.heap.size + 1, 0, none⟩) 0 0, .slice (some ⟨w2.heap.size + 1 + 1, 0, none⟩) 0 0] 96)).setCell ⟨w.heap.size, 0, none⟩ (.bool false)).setCell ⟨w.heap.size, 1, none⟩ (.slice none 0 0)).setCell ⟨w.heap.size, 2, none⟩ (.slice none 0 0)).setCell ⟨w.heap.size, 3, none⟩ (.slice none 0 0)) = W5 at HR ⊢
            obtain ⟨z0, z1, z2, z3, hbl, _⟩ := HR.out
            refine bodyPost_ret (v := .tuple #[ndV false none 0 0 none 0 0 none 0 0, .bool false]) (by simp [results, Try.results153, go_sem, z0, z1, z2, z3]) rfl ?_
            exact sr_of (q := ndZ) HDEC.out (NdOwn.zero _ _) hbl
end Go.Proofs.Ytlfnpnkpjdmonaa
