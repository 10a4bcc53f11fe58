import Derived.Test.YtlfnpnkpjdmonaaDoorDSrc
import Derived.Test.YtlfnpnkpjdmonaaDoorMsg4
set_option linter.unusedVariables false
set_option linter.unusedSimpArgs false
namespace Go.Proofs.YtlfnpnkpjdmonaaDoor
open Go.RowKit

/-! ### messages that are drawn -/
def drawnNames : List (List UInt8) := [[83, 117, 98, 106, 101, 99, 116], [70, 114, 111, 109], [88, 45, 89], [115, 117, 98, 106, 101, 99, 116]]
def drawnValues : List (List UInt8) := [[], [111, 110, 101], [97, 58, 32, 98], [116, 119, 111, 32, 119, 111, 114, 100, 115]]
def drawnBodies : List (List UInt8) := [[], [98, 111, 100, 121], [116, 119, 111, 10, 108, 105, 110, 101, 115], [58]]
abbrev DrawnF (f : Pr) : Prop := ∃ n ∈ drawnNames, ∃ v ∈ drawnValues, f = (bs n, bs v)
theorem grown_new {w w1 w2 : World} {row row' : Option Nat} (h : w.grownBy w1 row) (k : w1.grownBy w2 row') (hr : ∀ q, row' = some q → w.heap.size ≤ q) : w.grownBy w2 row :=
  ⟨k.os.trans h.os, k.tape.trans h.tape, k.output.trans h.output, Nat.le_trans h.size k.size, fun i hi hne => (k.block i (Nat.lt_of_lt_of_le hi h.size) (fun e => by have := hr i e.symm; omega)).trans (h.block i hi hne)⟩
structure MD (w wr : World) (g gs : Nat) (v : Value) (fs : List Pr) (b : ByteArray) (m : Int) : Prop where
  res : wr.heap[w.heap.size]? = some (.cells #[.slice none 0 0, .string ⟨#[]⟩] 28 (0, 0))
  box : wr.heap[g]? = some (.cells #[v, .string b] 28 (0, 0))
  own : wr.ownsRow (w.heap.size + 1) 49 2 v fs.length (flat encP fs)
  src : Sr wr gs m
  grown : w.grownBy wr (some gs)
  gt : w.heap.size < g
  lo : gs < w.heap.size
theorem MD.lt {w wr : World} {g gs : Nat} {v : Value} {fs : List Pr} {b : ByteArray} {m : Int} (h : MD w wr g gs v fs b m) : g < wr.heap.size := (Array.getElem?_eq_some_iff.1 h.box).1
theorem MD.ne {w wr : World} {g gs : Nat} {v : Value} {fs : List Pr} {b : ByteArray} {m : Int} (h : MD w wr g gs v fs b m) : v.ownBlock ≠ some g := own_ne_blk h.own h.box (by decide)
theorem MD.ns {w wr : World} {g gs : Nat} {v : Value} {fs : List Pr} {b : ByteArray} {m : Int} (h : MD w wr g gs v fs b m) : v.ownBlock ≠ some gs := fun e => by have := (h.own.lt _ e).1; have := h.lo; omega
theorem MD.old {w wr w' : World} {g gs : Nat} {v : Value} {fs : List Pr} {b : ByteArray} {m : Int} (h : MD w wr g gs v fs b m) (hb : Below wr.heap.size wr w') : MD w w' g gs v fs b m := by
  have := h.lt
  have := h.gt
  exact ⟨(hb.block _ (by omega)).trans h.res, (hb.block _ (by omega)).trans h.box, own_below h.own hb, h.src.below hb, grown_after h.grown (grown_below hb _), h.gt, h.lo⟩
theorem MD.next {w wr w' : World} {g gs : Nat} {v : Value} {fs : List Pr} {b : ByteArray} {m m' : Int} (h : MD w wr g gs v fs b m) (hs : Sr w' gs m') (hg : wr.grownBy w' (some gs)) : MD w w' g gs v fs b m' := by
  have := h.lt
  have := h.gt
  have := h.lo
  exact ⟨(hg.block _ (by omega) (fun e => by injection e; omega)).trans h.res, (hg.block _ (by omega) (fun e => by injection e; omega)).trans h.box, h.own.kept hg (.inr h.ns), hs, grown_after h.grown hg, h.gt, h.lo⟩
theorem MD.cells {w wr : World} {g gs : Nat} {v : Value} {fs : List Pr} {b : ByteArray} {m : Int} (h : MD w wr g gs v fs b m) : wr.cell? ⟨w.heap.size, 0, none⟩ = some (.slice none 0 0) ∧ wr.cell? ⟨w.heap.size, 1, none⟩ = some (.string ⟨#[]⟩) ∧ wr.cell? ⟨g, 0, none⟩ = some v ∧ wr.cell? ⟨g, 1, none⟩ = some (.string b) ∧ (∀ i, wr.frozen? ⟨w.heap.size, i, none⟩ = false) ∧ ∀ i, wr.frozen? ⟨g, i, none⟩ = false :=
  ⟨by rw [cell_of_row wr _ 0 _ _ _ h.res]; rfl, by rw [cell_of_row wr _ 1 _ _ _ h.res]; rfl, by rw [cell_of_row wr _ 0 _ _ _ h.box]; rfl, by rw [cell_of_row wr _ 1 _ _ _ h.box]; rfl, fun i => Lib.frozen_of_heap h.res i, fun i => Lib.frozen_of_heap h.box i⟩
theorem MD.drew {w wr : World} {g gs : Nat} {v : Value} {fs : List Pr} {b : ByteArray} {m : Int} (h : MD w wr g gs v fs b m) : MD w wr.drew g gs v fs b m := ⟨h.res, h.box, h.own.drew, h.src.drawn 1, ⟨h.grown.os, h.grown.tape, h.grown.output, h.grown.size, h.grown.block⟩, h.gt, h.lo⟩
theorem MD.push {w wr w3 : World} {g gs : Nat} {v v' : Value} {fs : List Pr} {b : ByteArray} {m : Int} {f : Pr} {u : Value} (h : MD w wr g gs v fs b m) (hp : Pushed (w.heap.size + 1) 49 2 v (fs.length + 1) (flat encP fs ++ encP f) wr v' w3) (hu : u = v') : MD w (w3.setCell ⟨g, 0, none⟩ u) g gs v' (fs ++ [f]) b m := by
  subst hu
  have hlt := h.lt
  have hgt := h.gt
  have hlo := h.lo
  have r1 : w3.heap[w.heap.size]? = _ := (hp.2.block _ (by omega) (fun e => by have := (h.own.lt _ e.symm).1; omega)).trans h.res
  have b1 : w3.heap[g]? = _ := (hp.2.block g hlt (fun e => h.ne e.symm)).trans h.box
  have hne : u.ownBlock ≠ some g := own_ne_blk hp.1 b1 (by decide)
  refine ⟨heap_setCell_at r1 0 u (by omega), ?_, ?_, ?_, ?_, hgt, hlo⟩
  · have := heap_setCell_same w3 g 0 _ _ u b1
    simpa using this
  · refine own_setAt ?_ hne 0 u
    rw [flat_append, List.length_append, flat_cons, flat_nil, List.append_nil]
    exact hp.1
  · exact (h.src.far hp.2 (fun k e => by have := (h.own.lt k e).1; omega)).far (grown_set _ _ _ _) (fun k e => by injection e; omega)
  · exact grown_new (grown_new h.grown hp.2 (fun k e => by have := (h.own.lt k e).1; omega)) (grown_set _ _ _ _) (fun k e => by injection e; omega)
theorem MD.pushedCells {w wr w3 : World} {g gs : Nat} {v v' : Value} {n : Nat} {fs : List Pr} {b : ByteArray} {m : Int} {ys : List Value} (h : MD w wr g gs v fs b m) (hp : Pushed (w.heap.size + 1) 49 2 v n ys wr v' w3) : w3.cell? ⟨g, 0, none⟩ = some v ∧ ∀ i, w3.frozen? ⟨g, i, none⟩ = false := by
  have b1 : w3.heap[g]? = _ := (hp.2.block g h.lt (fun e => h.ne e.symm)).trans h.box
  exact ⟨by rw [cell_of_row w3 _ 0 _ _ _ b1]; rfl, fun i => Lib.frozen_of_heap b1 i⟩
theorem MD.out {w wr : World} {g gs : Nat} {v : Value} {fs : List Pr} {b : ByteArray} {m : Int} (h : MD w wr g gs v fs b m) (u c : Value) :
    let W := (wr.setCell ⟨w.heap.size, 0, none⟩ u).setCell ⟨w.heap.size, 1, none⟩ c
    W.cell? ⟨w.heap.size, 0, none⟩ = some u ∧ W.cell? ⟨w.heap.size, 1, none⟩ = some c ∧ W.ownsRow w.heap.size 49 2 v fs.length (flat encP fs) ∧ w.grownBy W (some gs) := by
  intro W
  have e1 := heap_setCell_same wr w.heap.size 0 _ _ u h.res
  have e2 : W.heap[w.heap.size]? = some (.cells #[u, c] 28 (0, 0)) := by
    have := heap_setCell_same _ w.heap.size 1 _ _ c e1
    simpa using this
  refine ⟨by rw [cell_of_row W _ 0 _ _ _ e2]; rfl, by rw [cell_of_row W _ 1 _ _ _ e2]; rfl, ?_, ?_⟩
  · exact own_mono (ownSet (ownSet h.own (by omega) 0 u) (by omega) 1 c) (by omega)
  · exact grown_new (grown_new h.grown (grown_set _ _ _ _) (fun k e => by injection e; omega)) (grown_set _ _ _ _) (fun k e => by injection e; omega)
def MsgDraw (w : World) (gs : Nat) (e : Ending) (w' : World) : Prop := ∃ (A : Option Addr) (c : Nat) (fs : List Pr) (b : List UInt8), e = .returned (msgV A fs.length c (bs b)) ∧ fs.length ≤ 2 ∧ (∀ f ∈ fs, DrawnF f) ∧ b ∈ drawnBodies ∧ w'.ownsRow w.heap.size 49 2 (.slice A fs.length c) fs.length (flat encP fs) ∧ w.grownBy w' (some gs)
theorem MD.start {w w1 w2 : World} {gs : Nat} {m : Int} {b : ByteArray} (hgs : gs < w.heap.size) (h1 : w1 = (((w.alloc (.cells #[.slice none 0 0, .string ⟨#[]⟩] 28)).alloc (.cells #[] 49)).alloc (.cells #[.string ⟨#[]⟩, .string ⟨#[98, 111, 100, 121]⟩, .string ⟨#[116, 119, 111, 10, 108, 105, 110, 101, 115]⟩, .string ⟨#[58]⟩] 9))) (hs : Sr w2 gs m) (hg : w1.grownBy w2 (some gs)) :
    MD w (w2.alloc (.cells #[.slice (some ⟨w.heap.size + 1, 0, none⟩) 0 0, .string b] 28)) w2.heap.size gs (.slice (some ⟨w.heap.size + 1, 0, none⟩) 0 0) [] b m := by
  have e0 : w1.heap[w.heap.size]? = some (.cells #[.slice none 0 0, .string ⟨#[]⟩] 28 (0, 0)) := by
    rw [h1]
    exact (Below.heap_alloc _ _ _ (by simp; omega)).trans ((Below.heap_alloc _ _ _ (by simp)).trans (heap_alloc_new _ _))
  have e1 : w1.heap[w.heap.size + 1]? = some (.cells #[] 49 (0, 0)) := by
    rw [h1]
    refine (Below.heap_alloc _ _ _ (by simp)).trans ?_
    have h := heap_alloc_new (w.alloc (.cells #[.slice none 0 0, .string ⟨#[]⟩] 28)) (.cells #[] 49)
    rwa [World.size_alloc] at h
  have hb : Below w.heap.size w w1 := by rw [h1]; repeat (first | exact Below.refl _ _ | assumption | refine Below.drew ?_ | refine below_drewN ?_ _ | refine Below.setCell ?_ (by first | exact Nat.le_refl _ | exact Below.size (by assumption) | (simp; done) | (simp; omega) | omega) _ | refine Below.alloc ?_ (by first | exact Nat.le_refl _ | exact Below.size (by assumption) | (simp; done) | (simp; omega) | omega) _)
  have hs1 : w.heap.size + 3 = w1.heap.size := by rw [h1]; simp
  have hz := hg.size
  refine ⟨?_, heap_alloc_new _ _, own_empty_at (Nat.le_refl _) ?_, hs.below ((Below.refl _ _).alloc (Nat.le_refl _) _), grown_after (grown_after (grown_below hb _) hg) (grown_below ((Below.refl _ _).alloc (Nat.le_refl _) _) _), by omega, hgs⟩
  · exact (Below.heap_alloc _ _ _ (by omega)).trans ((hg.block _ (by omega) (fun e => by injection e; omega)).trans e0)
  · exact (Below.heap_alloc _ _ _ (by omega)).trans ((hg.block _ (by omega) (fun e => by injection e; omega)).trans e1)
set_option maxRecDepth 100000 in
set_option maxHeartbeats 2000000 in
theorem message_any (g : Nat) (m : Int) (w : World) (h : Sr w g m) (hm : m ≤ 1099511620000) : Calls Tryd.prog 52 #[.pointer (some ⟨g, 0, none⟩)] w (MsgDraw w g) := by
  have hgl := h.lt
  obtain ⟨w1, hw1⟩ : ∃ W : World, W = (((w.alloc (.cells #[.slice none 0 0, .string ⟨#[]⟩] 28)).alloc (.cells #[] 49)).alloc (.cells #[.string ⟨#[]⟩, .string ⟨#[98, 111, 100, 121]⟩, .string ⟨#[116, 119, 111, 10, 108, 105, 110, 101, 115]⟩, .string ⟨#[58]⟩] 9)) := ⟨_, rfl⟩
  have hb1 : Below w.heap.size w w1 := by rw [hw1]; repeat (first | exact Below.refl _ _ | assumption | refine Below.drew ?_ | refine below_drewN ?_ _ | refine Below.setCell ?_ (by first | exact Nat.le_refl _ | exact Below.size (by assumption) | (simp; done) | (simp; omega) | omega) _ | refine Below.alloc ?_ (by first | exact Nat.le_refl _ | exact Below.size (by assumption) | (simp; done) | (simp; omega) | omega) _)
  have HS := Lib.hid (h.below hb1)
  have HW := Lib.hid hw1
  have hs1 : w.heap.size + 2 < w1.heap.size := by rw [hw1]; simp
  have hx1 : ∀ j, (hj : j < drawnBodies.length) → w1.cell? ⟨w.heap.size + 1 + 1, j, none⟩ = some (sv drawnBodies[j]) := by
    intro j hj
    rw [hw1]
    have hj2 : j < 4 := hj
    match j, hj2 with
    | 0, _ => simp [go_sem]; rfl
    | 1, _ => simp [go_sem]; rfl
    | 2, _ => simp [go_sem]; rfl
    | 3, _ => simp [go_sem]; rfl
  have HX := Lib.hid hx1
  clear h hb1 hw1 hx1
  go_enter Tryd.func52, Tryd.ntmps52
  go_wp2_with fail
  rw [← HW.out]
  refine (pick_any g (w.heap.size + 1 + 1) m 4 drawnBodies _ HS.out (by omega) (by omega) HX.out (by omega) (by simp [drawnBodies]) (by simp [drawnBodies])).mono ?_
  rintro e w2 ⟨b, hbm, rfl, hs2, hg2⟩
  have HM2 := Lib.hid (MD.start (b := bs b) hgl HW.out hs2 hg2)
  have HBM := Lib.hid hbm
  have hz2 := hg2.size
  have hsw2 : w.heap.size + 2 < w2.heap.size := by omega
  clear hbm hs2 hg2 HS HX HW
  go_wp2_with fail
  generalize (w2.alloc (.cells #[.slice (some ⟨w.heap.size + 1, 0, none⟩) 0 0, .string (bs b)] 28)) = w3 at HM2 ⊢
  have hlt3 := HM2.out.lt
  refine (next_any g _ 3 _ HM2.out.src (by omega) (by omega) (by omega)).mono ?_
  rintro e w4 ⟨n, rfl, h0, h1, hs4, hg4⟩
  have HM4 := Lib.hid (HM2.out.next hs4 hg4)
  have hz4 := hg4.size
  clear hs4 hg4 HM2
  go_wp2_with fail
  go_loopw [4] (fun i wr => ∃ (k : Int) (fs : List Pr) (v : Value), 0 ≤ k ∧ k + fs.length ≤ 2 ∧ i = .int .i64 k ∧ (∀ f ∈ fs, DrawnF f) ∧ MD w wr w2.heap.size g v fs (bs b) (m + 6 + 6 * (2 - k))) (fun i _ => (intOf i).toNat)
  case atStart => exact ⟨n, [], _, h0, by simp; omega, rfl, by simp, ⟨HM4.out.res, HM4.out.box, HM4.out.own, HM4.out.src.more (by omega), HM4.out.grown, HM4.out.gt, HM4.out.lo⟩⟩
  case round =>
    obtain ⟨k, fs, v, hk0, hkl, rfl, hall, hmd⟩ := hrel
    have HALL := Lib.hid hall
    have HMD := Lib.hid hmd
    have hsw := hmd.lt
    obtain ⟨r0, r1, r2, r3, r4, r5⟩ := hmd.cells
    clear hall hmd HM4
    by_cases hk : 0 < k
    · go_wp2_with fail
      have HPN : Hid (∀ (W : World) (M : Int) (B : Nat), Sr W g M → M ≤ 1099511627770 → g < B → B < W.heap.size → (∀ j, (hj : j < drawnNames.length) → W.cell? ⟨B, j, none⟩ = some (sv drawnNames[j])) → Calls Tryd.prog 71 #[.pointer (some ⟨g, 0, none⟩), .slice (some ⟨B, 0, none⟩) 4 4] W (PickPost drawnNames W g (M + 3))) := fun W M B h1 h2 h3 h4 h5 => pick_any g B M 4 drawnNames W h1 h2 h3 h5 h4 (by simp [drawnNames]) (by simp [drawnNames])
      have HPV : Hid (∀ (W : World) (M : Int) (B : Nat), Sr W g M → M ≤ 1099511627770 → g < B → B < W.heap.size → (∀ j, (hj : j < drawnValues.length) → W.cell? ⟨B, j, none⟩ = some (sv drawnValues[j])) → Calls Tryd.prog 71 #[.pointer (some ⟨g, 0, none⟩), .slice (some ⟨B, 0, none⟩) 4 4] W (PickPost drawnValues W g (M + 3))) := fun W M B h1 h2 h3 h4 h5 => pick_any g B M 4 drawnValues W h1 h2 h3 h5 h4 (by simp [drawnValues]) (by simp [drawnValues])
      refine wp_region_noPanic ?_
      refine wp_region_held_drew (S := fun _ => True) (by kernel_rfl) ?_ (fun hHeld => ?_)
      · trivial
      have HM0 := Lib.hid HMD.out.drew
      generalize wr.drew = W0 at HM0 ⊢
      have hq0 := HM0.out.lt
      clear HMD r0 r1 r2 r3 r4 r5 hsw
      refine wpAnyH_take (i := 0) (oi := ⟨some 16, _, _, _, _, _⟩) (v := ?_) rfl (by kernel_rfl) (by kernel_rfl) (by kernel_rfl) (fun _ _ _ h => h) (Or.inl ⟨by simp [Region.wanted, yielded, undef], ?_⟩) (by assumption) ?_
      rotate_left
      · ((intro w hSw; (try dsimp only at hSw); go_simp) <;> with_reducible rfl)
      (try simp only [Act.put, List.setIfInBounds_toArray, List.set_cons_zero, List.set_cons_succ])
      refine wpAnyH_take (i := 2) (oi := ⟨some 18, _, _, _, _, _⟩) (v := ?_) rfl (by kernel_rfl) (by kernel_rfl) (by kernel_rfl) (fun _ _ _ h => h) (Or.inl ⟨by simp [Region.wanted, yielded, undef], ?_⟩) (by assumption) ?_
      rotate_left
      · ((intro w hSw; (try dsimp only at hSw); go_simp) <;> with_reducible rfl)
      (try simp only [Act.put, List.setIfInBounds_toArray, List.set_cons_zero, List.set_cons_succ])
      refine wpAnyH_take (i := 5) (oi := ⟨some 21, _, _, _, _, _⟩) (v := ?_) rfl (by kernel_rfl) (by kernel_rfl) (by kernel_rfl) (fun _ _ _ h => h) (Or.inl ⟨by simp [Region.wanted, yielded, undef], ?_⟩) (by assumption) ?_
      rotate_left
      · ((intro w hSw; (try dsimp only at hSw); go_simp) <;> with_reducible rfl)
      (try simp only [Act.put, List.setIfInBounds_toArray, List.set_cons_zero, List.set_cons_succ])
      refine wpAnyH_ready (rs := [1, 3, 6]) (by kernel_rfl) (by simp) ?_
      refine (AllReadyH.cons (o := ⟨some 17, _, _, _, _, _⟩) rfl (fun K hK => ?_) (AllReadyH.cons (o := ⟨some 19, _, _, _, _, _⟩) rfl (fun K hK => ?_) (AllReadyH.cons (o := ⟨some 22, _, _, _, _, _⟩) rfl (fun K hK => ?_) AllReadyH.nil)))
      · have c2 := HM0.out.cells.2.2.1
        go_simp
        clear c2
        refine hK.out _ _ ?_ (fun hHeld => ?_)
        · trivial
        clear hK K
        (try simp only [Act.put, List.setIfInBounds_toArray, List.set_cons_zero, List.set_cons_succ])
        refine wpAnyH_ready (rs := [3, 6]) (by kernel_rfl) (by simp) ?_
        refine (AllReadyH.cons (o := ⟨some 19, _, _, _, _, _⟩) rfl (fun K hK => ?_) (AllReadyH.cons (o := ⟨some 22, _, _, _, _, _⟩) rfl (fun K hK => ?_) AllReadyH.nil))
        · go_simp
          refine hK.out _ _ ?_ (fun hHeld => ?_)
          · trivial
          clear hK K
          (try simp only [Act.put, List.setIfInBounds_toArray, List.set_cons_zero, List.set_cons_succ])
          obtain ⟨W1, hW1⟩ : ∃ W : World, W = W0.alloc (.cells #[.string ⟨#[83, 117, 98, 106, 101, 99, 116]⟩, .string ⟨#[70, 114, 111, 109]⟩, .string ⟨#[88, 45, 89]⟩, .string ⟨#[115, 117, 98, 106, 101, 99, 116]⟩] 9) := ⟨_, rfl⟩
          rw [← hW1]
          have hb1 : Below W0.heap.size W0 W1 := by rw [hW1]; exact (Below.refl _ _).alloc (Nat.le_refl _) _
          have hq1 : W0.heap.size < W1.heap.size := by rw [hW1]; simp
          have HM1 := Lib.hid (HM0.out.old hb1)
          have HX3 : Hid (∀ j, (hj : j < drawnNames.length) → W1.cell? ⟨W0.heap.size, j, none⟩ = some (sv drawnNames[j])) := by
            rw [hW1]
            intro j hj
            have hj2 : j < 4 := hj
            match j, hj2 with
            | 0, _ => simp [go_sem]; rfl
            | 1, _ => simp [go_sem]; rfl
            | 2, _ => simp [go_sem]; rfl
            | 3, _ => simp [go_sem]; rfl
          clear hW1 hb1
          refine wpAnyH_ready (rs := [4, 6]) (by kernel_rfl) (by simp) ?_
          refine (AllReadyH.cons (o := ⟨some 20, _, _, _, _, _⟩) rfl (fun K hK => ?_) (AllReadyH.cons (o := ⟨some 22, _, _, _, _, _⟩) rfl (fun K hK => ?_) AllReadyH.nil))
          · have hlo := HM1.out.lo
            go_simp
            refine (HPN.out W1 _ W0.heap.size HM1.out.src (by omega) (by omega) (by omega) HX3.out).mono ?_
            rintro e W2 ⟨x, hx, rfl, hs, hg⟩
            have hq2 := hg.size
            have HM2 := Lib.hid (HM1.out.next hs hg)
            have HDx := Lib.hid hx
            clear hx hs hg hlo
            go_wp2_with fail
            refine hK.out _ _ ?_ (fun hHeld => ?_)
            · trivial
            clear hK K
            (try simp only [Act.put, List.setIfInBounds_toArray, List.set_cons_zero, List.set_cons_succ])
            refine wpAnyH_ready (rs := [6]) (by kernel_rfl) (by simp) ?_
            refine (AllReadyH.cons (o := ⟨some 22, _, _, _, _, _⟩) rfl (fun K hK => ?_) AllReadyH.nil)
            go_simp
            refine hK.out _ _ ?_ (fun hHeld => ?_)
            · trivial
            clear hK K
            (try simp only [Act.put, List.setIfInBounds_toArray, List.set_cons_zero, List.set_cons_succ])
            obtain ⟨W3, hW3⟩ : ∃ W : World, W = W2.alloc (.cells #[.string ⟨#[]⟩, .string ⟨#[111, 110, 101]⟩, .string ⟨#[97, 58, 32, 98]⟩, .string ⟨#[116, 119, 111, 32, 119, 111, 114, 100, 115]⟩] 9) := ⟨_, rfl⟩
            rw [← hW3]
            have hb3 : Below W2.heap.size W2 W3 := by rw [hW3]; exact (Below.refl _ _).alloc (Nat.le_refl _) _
            have hq3 : W2.heap.size < W3.heap.size := by rw [hW3]; simp
            have HM3 := Lib.hid (HM2.out.old hb3)
            have HX6 : Hid (∀ j, (hj : j < drawnValues.length) → W3.cell? ⟨W2.heap.size, j, none⟩ = some (sv drawnValues[j])) := by
              rw [hW3]
              intro j hj
              have hj2 : j < 4 := hj
              match j, hj2 with
              | 0, _ => simp [go_sem]; rfl
              | 1, _ => simp [go_sem]; rfl
              | 2, _ => simp [go_sem]; rfl
              | 3, _ => simp [go_sem]; rfl
            clear hW3 hb3
            refine wpAnyH_ready (rs := [7]) (by kernel_rfl) (by simp) ?_
            refine (AllReadyH.cons (o := ⟨some 23, _, _, _, _, _⟩) rfl (fun K hK => ?_) AllReadyH.nil)
            have hlo := HM3.out.lo
            go_simp
            refine (HPV.out W3 _ W2.heap.size HM3.out.src (by omega) (by omega) (by omega) HX6.out).mono ?_
            rintro e W4 ⟨y, hx, rfl, hs, hg⟩
            have hq4 := hg.size
            have HM4 := Lib.hid (HM3.out.next hs hg)
            have HDy := Lib.hid hx
            clear hx hs hg hlo
            go_wp2_with fail
            refine hK.out _ _ ?_ (fun hHeld => ?_)
            · trivial
            clear hK K
            (try simp only [Act.put, List.setIfInBounds_toArray, List.set_cons_zero, List.set_cons_succ])
            refine wpAnyH_take (i := 8) (oi := ⟨some 24, _, _, _, _, _⟩) (v := ?_) rfl (by kernel_rfl) (by kernel_rfl) (by kernel_rfl) (fun _ _ _ h => h) (Or.inl ⟨by simp [Region.wanted, yielded, undef], ?_⟩) (by assumption) ?_
            rotate_left
            · ((intro w hSw; (try dsimp only at hSw); go_simp) <;> with_reducible rfl)
            (try simp only [Act.put, List.setIfInBounds_toArray, List.set_cons_zero, List.set_cons_succ])
            refine wpAnyH_ready (rs := [9]) (by kernel_rfl) (by simp) ?_
            refine (AllReadyH.cons (o := ⟨some 25, _, _, _, _, _⟩) rfl (fun K hK => ?_) AllReadyH.nil)
            go_simp
            refine hK.out _ _ ?_ (fun hHeld => ?_)
            · trivial
            clear hK K
            (try simp only [Act.put, List.setIfInBounds_toArray, List.set_cons_zero, List.set_cons_succ])
            obtain ⟨W5, hW5⟩ : ∃ W : World, W = W4.alloc (.cells #[.string (bs x), .string (bs y)] 49) := ⟨_, rfl⟩
            rw [← hW5]
            have HM5 : Hid (MD w W5 w2.heap.size g v fs (bs b) (m + 6 + 6 * (2 - k) + 3 + 3)) := by rw [hW5]; exact HM4.out.old ((Below.refl _ _).alloc (Nat.le_refl _) _)
            have HF : Hid (W5.heap[W4.heap.size]? = some (.cells #[.string (bs x), .string (bs y)] 49 (0, 0))) := by rw [hW5]; exact heap_alloc_new _ _
            have hq5 : W4.heap.size < W5.heap.size := by rw [hW5]; simp
            clear hW5
            refine wpAnyH_ready (rs := [10]) (by kernel_rfl) (by simp) ?_
            refine (AllReadyH.cons (o := ⟨some 26, _, _, _, _, _⟩) rfl (fun K hK => ?_) AllReadyH.nil)
            have hzl := HM5.out.lt
            refine step_push_one elField rfl _ _ rfl (w.heap.size + 1) v fs.length (flat encP fs) rfl HM5.out.own W4.heap.size [.string (bs x), .string (bs y)] HF.out rfl rfl (by simp [Value.oneCell']) (by simp only [maxLen]; omega) (by omega) (by omega) ?_
            intro v6 w6 hp6
            obtain ⟨A6, c6, rfl, _⟩ := own_form hp6.1
            have HM6 := Lib.hid (HM5.out.push (f := (bs x, bs y)) hp6 rfl)
            obtain ⟨s0, s1⟩ := MD.pushedCells HM5.out hp6
            clear hp6 hzl
            refine hK.out _ _ ?_ (fun hHeld => ?_)
            · trivial
            clear hK K
            (try simp only [Act.put, List.setIfInBounds_toArray, List.set_cons_zero, List.set_cons_succ])
            refine wpAnyH_take (i := 11) (oi := ⟨some 27, _, _, _, _, _⟩) (v := ?_) rfl (by kernel_rfl) (by kernel_rfl) (by kernel_rfl) (fun _ _ _ h => h) (Or.inl ⟨by simp [Region.wanted, yielded, undef], ?_⟩) (by assumption) ?_
            rotate_left
            · ((intro w hSw; (try dsimp only at hSw); go_simp) <;> with_reducible rfl)
            (try simp only [Act.put, List.setIfInBounds_toArray, List.set_cons_zero, List.set_cons_succ])
            refine wpAnyH_ready (rs := [12]) (by kernel_rfl) (by simp) ?_
            refine (AllReadyH.cons rfl (fun K hK => ?_) AllReadyH.nil)
            go_simp
            refine hK.out _ _ ?_ (fun hHeld => ?_)
            · trivial
            clear hK K
            (try simp only [Act.put, List.setIfInBounds_toArray, List.set_cons_zero, List.set_cons_succ])
            refine wpAnyH_done (by kernel_rfl) ?_ _
            refine NoPanic.normal ?_
            go_wp2_with fail
            go_roundw
            case rel =>
              refine ⟨k - 1, fs ++ [(bs x, bs y)], _, by omega, by simp; omega, by go_num, ?_, ⟨HM6.out.res, HM6.out.box, HM6.out.own, HM6.out.src.more (by omega), HM6.out.grown, HM6.out.gt, HM6.out.lo⟩⟩
              intro f hf
              rw [List.mem_append] at hf
              rcases hf with hf | hf
              · exact HALL.out f hf
              · exact ⟨x, HDx.out, y, HDy.out, List.mem_singleton.1 hf⟩
            case measure => simp [intOf]; omega
          · go_simp
            refine hK.out _ _ ?_ (fun hHeld => ?_)
            · trivial
            clear hK K
            (try simp only [Act.put, List.setIfInBounds_toArray, List.set_cons_zero, List.set_cons_succ])
            obtain ⟨W2, hW2⟩ : ∃ W : World, W = W1.alloc (.cells #[.string ⟨#[]⟩, .string ⟨#[111, 110, 101]⟩, .string ⟨#[97, 58, 32, 98]⟩, .string ⟨#[116, 119, 111, 32, 119, 111, 114, 100, 115]⟩] 9) := ⟨_, rfl⟩
            rw [← hW2]
            have hb2 : Below W1.heap.size W1 W2 := by rw [hW2]; exact (Below.refl _ _).alloc (Nat.le_refl _) _
            have hq2 : W1.heap.size < W2.heap.size := by rw [hW2]; simp
            have HM2 := Lib.hid (HM1.out.old hb2)
            have HX6 : Hid (∀ j, (hj : j < drawnValues.length) → W2.cell? ⟨W1.heap.size, j, none⟩ = some (sv drawnValues[j])) := by
              rw [hW2]
              intro j hj
              have hj2 : j < 4 := hj
              match j, hj2 with
              | 0, _ => simp [go_sem]; rfl
              | 1, _ => simp [go_sem]; rfl
              | 2, _ => simp [go_sem]; rfl
              | 3, _ => simp [go_sem]; rfl
            have HX3 := Lib.hid (fun j hj => (World.cell?_of_block (hb2.block W0.heap.size (by omega))).trans (HX3.out j hj))
            clear hW2 hb2
            refine wpAnyH_ready (rs := [4]) (by kernel_rfl) (by simp) ?_
            refine (AllReadyH.cons (o := ⟨some 20, _, _, _, _, _⟩) rfl (fun K hK => ?_) AllReadyH.nil)
            have hlo := HM2.out.lo
            go_simp
            refine (HPN.out W2 _ W0.heap.size HM2.out.src (by omega) (by omega) (by omega) HX3.out).mono ?_
            rintro e W3 ⟨x, hx, rfl, hs, hg⟩
            have hq3 := hg.size
            have HM3 := Lib.hid (HM2.out.next hs hg)
            have HDx := Lib.hid hx
            have HX6 := Lib.hid (fun j hj => (World.cell?_of_block (hg.block W1.heap.size (by omega) (fun e => by injection e; omega))).trans (HX6.out j hj))
            clear hx hs hg hlo
            go_wp2_with fail
            refine hK.out _ _ ?_ (fun hHeld => ?_)
            · trivial
            clear hK K
            (try simp only [Act.put, List.setIfInBounds_toArray, List.set_cons_zero, List.set_cons_succ])
            refine wpAnyH_ready (rs := [7]) (by kernel_rfl) (by simp) ?_
            refine (AllReadyH.cons (o := ⟨some 23, _, _, _, _, _⟩) rfl (fun K hK => ?_) AllReadyH.nil)
            have hlo := HM3.out.lo
            go_simp
            refine (HPV.out W3 _ W1.heap.size HM3.out.src (by omega) (by omega) (by omega) HX6.out).mono ?_
            rintro e W4 ⟨y, hx, rfl, hs, hg⟩
            have hq4 := hg.size
            have HM4 := Lib.hid (HM3.out.next hs hg)
            have HDy := Lib.hid hx
            clear hx hs hg hlo
            go_wp2_with fail
            refine hK.out _ _ ?_ (fun hHeld => ?_)
            · trivial
            clear hK K
            (try simp only [Act.put, List.setIfInBounds_toArray, List.set_cons_zero, List.set_cons_succ])
            refine wpAnyH_take (i := 8) (oi := ⟨some 24, _, _, _, _, _⟩) (v := ?_) rfl (by kernel_rfl) (by kernel_rfl) (by kernel_rfl) (fun _ _ _ h => h) (Or.inl ⟨by simp [Region.wanted, yielded, undef], ?_⟩) (by assumption) ?_
            rotate_left
            · ((intro w hSw; (try dsimp only at hSw); go_simp) <;> with_reducible rfl)
            (try simp only [Act.put, List.setIfInBounds_toArray, List.set_cons_zero, List.set_cons_succ])
            refine wpAnyH_ready (rs := [9]) (by kernel_rfl) (by simp) ?_
            refine (AllReadyH.cons (o := ⟨some 25, _, _, _, _, _⟩) rfl (fun K hK => ?_) AllReadyH.nil)
            go_simp
            refine hK.out _ _ ?_ (fun hHeld => ?_)
            · trivial
            clear hK K
            (try simp only [Act.put, List.setIfInBounds_toArray, List.set_cons_zero, List.set_cons_succ])
            obtain ⟨W5, hW5⟩ : ∃ W : World, W = W4.alloc (.cells #[.string (bs x), .string (bs y)] 49) := ⟨_, rfl⟩
            rw [← hW5]
            have HM5 : Hid (MD w W5 w2.heap.size g v fs (bs b) (m + 6 + 6 * (2 - k) + 3 + 3)) := by rw [hW5]; exact HM4.out.old ((Below.refl _ _).alloc (Nat.le_refl _) _)
            have HF : Hid (W5.heap[W4.heap.size]? = some (.cells #[.string (bs x), .string (bs y)] 49 (0, 0))) := by rw [hW5]; exact heap_alloc_new _ _
            have hq5 : W4.heap.size < W5.heap.size := by rw [hW5]; simp
            clear hW5
            refine wpAnyH_ready (rs := [10]) (by kernel_rfl) (by simp) ?_
            refine (AllReadyH.cons (o := ⟨some 26, _, _, _, _, _⟩) rfl (fun K hK => ?_) AllReadyH.nil)
            have hzl := HM5.out.lt
            refine step_push_one elField rfl _ _ rfl (w.heap.size + 1) v fs.length (flat encP fs) rfl HM5.out.own W4.heap.size [.string (bs x), .string (bs y)] HF.out rfl rfl (by simp [Value.oneCell']) (by simp only [maxLen]; omega) (by omega) (by omega) ?_
            intro v6 w6 hp6
            obtain ⟨A6, c6, rfl, _⟩ := own_form hp6.1
            have HM6 := Lib.hid (HM5.out.push (f := (bs x, bs y)) hp6 rfl)
            obtain ⟨s0, s1⟩ := MD.pushedCells HM5.out hp6
            clear hp6 hzl
            refine hK.out _ _ ?_ (fun hHeld => ?_)
            · trivial
            clear hK K
            (try simp only [Act.put, List.setIfInBounds_toArray, List.set_cons_zero, List.set_cons_succ])
            refine wpAnyH_take (i := 11) (oi := ⟨some 27, _, _, _, _, _⟩) (v := ?_) rfl (by kernel_rfl) (by kernel_rfl) (by kernel_rfl) (fun _ _ _ h => h) (Or.inl ⟨by simp [Region.wanted, yielded, undef], ?_⟩) (by assumption) ?_
            rotate_left
            · ((intro w hSw; (try dsimp only at hSw); go_simp) <;> with_reducible rfl)
            (try simp only [Act.put, List.setIfInBounds_toArray, List.set_cons_zero, List.set_cons_succ])
            refine wpAnyH_ready (rs := [12]) (by kernel_rfl) (by simp) ?_
            refine (AllReadyH.cons rfl (fun K hK => ?_) AllReadyH.nil)
            go_simp
            refine hK.out _ _ ?_ (fun hHeld => ?_)
            · trivial
            clear hK K
            (try simp only [Act.put, List.setIfInBounds_toArray, List.set_cons_zero, List.set_cons_succ])
            refine wpAnyH_done (by kernel_rfl) ?_ _
            refine NoPanic.normal ?_
            go_wp2_with fail
            go_roundw
            case rel =>
              refine ⟨k - 1, fs ++ [(bs x, bs y)], _, by omega, by simp; omega, by go_num, ?_, ⟨HM6.out.res, HM6.out.box, HM6.out.own, HM6.out.src.more (by omega), HM6.out.grown, HM6.out.gt, HM6.out.lo⟩⟩
              intro f hf
              rw [List.mem_append] at hf
              rcases hf with hf | hf
              · exact HALL.out f hf
              · exact ⟨x, HDx.out, y, HDy.out, List.mem_singleton.1 hf⟩
            case measure => simp [intOf]; omega
        · go_simp
          refine hK.out _ _ ?_ (fun hHeld => ?_)
          · trivial
          clear hK K
          (try simp only [Act.put, List.setIfInBounds_toArray, List.set_cons_zero, List.set_cons_succ])
          obtain ⟨W1, hW1⟩ : ∃ W : World, W = W0.alloc (.cells #[.string ⟨#[]⟩, .string ⟨#[111, 110, 101]⟩, .string ⟨#[97, 58, 32, 98]⟩, .string ⟨#[116, 119, 111, 32, 119, 111, 114, 100, 115]⟩] 9) := ⟨_, rfl⟩
          rw [← hW1]
          have hb1 : Below W0.heap.size W0 W1 := by rw [hW1]; exact (Below.refl _ _).alloc (Nat.le_refl _) _
          have hq1 : W0.heap.size < W1.heap.size := by rw [hW1]; simp
          have HM1 := Lib.hid (HM0.out.old hb1)
          have HX6 : Hid (∀ j, (hj : j < drawnValues.length) → W1.cell? ⟨W0.heap.size, j, none⟩ = some (sv drawnValues[j])) := by
            rw [hW1]
            intro j hj
            have hj2 : j < 4 := hj
            match j, hj2 with
            | 0, _ => simp [go_sem]; rfl
            | 1, _ => simp [go_sem]; rfl
            | 2, _ => simp [go_sem]; rfl
            | 3, _ => simp [go_sem]; rfl
          clear hW1 hb1
          refine wpAnyH_ready (rs := [3]) (by kernel_rfl) (by simp) ?_
          refine (AllReadyH.cons (o := ⟨some 19, _, _, _, _, _⟩) rfl (fun K hK => ?_) AllReadyH.nil)
          go_simp
          refine hK.out _ _ ?_ (fun hHeld => ?_)
          · trivial
          clear hK K
          (try simp only [Act.put, List.setIfInBounds_toArray, List.set_cons_zero, List.set_cons_succ])
          obtain ⟨W2, hW2⟩ : ∃ W : World, W = W1.alloc (.cells #[.string ⟨#[83, 117, 98, 106, 101, 99, 116]⟩, .string ⟨#[70, 114, 111, 109]⟩, .string ⟨#[88, 45, 89]⟩, .string ⟨#[115, 117, 98, 106, 101, 99, 116]⟩] 9) := ⟨_, rfl⟩
          rw [← hW2]
          have hb2 : Below W1.heap.size W1 W2 := by rw [hW2]; exact (Below.refl _ _).alloc (Nat.le_refl _) _
          have hq2 : W1.heap.size < W2.heap.size := by rw [hW2]; simp
          have HM2 := Lib.hid (HM1.out.old hb2)
          have HX3 : Hid (∀ j, (hj : j < drawnNames.length) → W2.cell? ⟨W1.heap.size, j, none⟩ = some (sv drawnNames[j])) := by
            rw [hW2]
            intro j hj
            have hj2 : j < 4 := hj
            match j, hj2 with
            | 0, _ => simp [go_sem]; rfl
            | 1, _ => simp [go_sem]; rfl
            | 2, _ => simp [go_sem]; rfl
            | 3, _ => simp [go_sem]; rfl
          have HX6 := Lib.hid (fun j hj => (World.cell?_of_block (hb2.block W0.heap.size (by omega))).trans (HX6.out j hj))
          clear hW2 hb2
          refine wpAnyH_ready (rs := [4]) (by kernel_rfl) (by simp) ?_
          refine (AllReadyH.cons (o := ⟨some 20, _, _, _, _, _⟩) rfl (fun K hK => ?_) AllReadyH.nil)
          have hlo := HM2.out.lo
          go_simp
          refine (HPN.out W2 _ W1.heap.size HM2.out.src (by omega) (by omega) (by omega) HX3.out).mono ?_
          rintro e W3 ⟨x, hx, rfl, hs, hg⟩
          have hq3 := hg.size
          have HM3 := Lib.hid (HM2.out.next hs hg)
          have HDx := Lib.hid hx
          have HX6 := Lib.hid (fun j hj => (World.cell?_of_block (hg.block W0.heap.size (by omega) (fun e => by injection e; omega))).trans (HX6.out j hj))
          clear hx hs hg hlo
          go_wp2_with fail
          refine hK.out _ _ ?_ (fun hHeld => ?_)
          · trivial
          clear hK K
          (try simp only [Act.put, List.setIfInBounds_toArray, List.set_cons_zero, List.set_cons_succ])
          refine wpAnyH_ready (rs := [7]) (by kernel_rfl) (by simp) ?_
          refine (AllReadyH.cons (o := ⟨some 23, _, _, _, _, _⟩) rfl (fun K hK => ?_) AllReadyH.nil)
          have hlo := HM3.out.lo
          go_simp
          refine (HPV.out W3 _ W0.heap.size HM3.out.src (by omega) (by omega) (by omega) HX6.out).mono ?_
          rintro e W4 ⟨y, hx, rfl, hs, hg⟩
          have hq4 := hg.size
          have HM4 := Lib.hid (HM3.out.next hs hg)
          have HDy := Lib.hid hx
          clear hx hs hg hlo
          go_wp2_with fail
          refine hK.out _ _ ?_ (fun hHeld => ?_)
          · trivial
          clear hK K
          (try simp only [Act.put, List.setIfInBounds_toArray, List.set_cons_zero, List.set_cons_succ])
          refine wpAnyH_take (i := 8) (oi := ⟨some 24, _, _, _, _, _⟩) (v := ?_) rfl (by kernel_rfl) (by kernel_rfl) (by kernel_rfl) (fun _ _ _ h => h) (Or.inl ⟨by simp [Region.wanted, yielded, undef], ?_⟩) (by assumption) ?_
          rotate_left
          · ((intro w hSw; (try dsimp only at hSw); go_simp) <;> with_reducible rfl)
          (try simp only [Act.put, List.setIfInBounds_toArray, List.set_cons_zero, List.set_cons_succ])
          refine wpAnyH_ready (rs := [9]) (by kernel_rfl) (by simp) ?_
          refine (AllReadyH.cons (o := ⟨some 25, _, _, _, _, _⟩) rfl (fun K hK => ?_) AllReadyH.nil)
          go_simp
          refine hK.out _ _ ?_ (fun hHeld => ?_)
          · trivial
          clear hK K
          (try simp only [Act.put, List.setIfInBounds_toArray, List.set_cons_zero, List.set_cons_succ])
          obtain ⟨W5, hW5⟩ : ∃ W : World, W = W4.alloc (.cells #[.string (bs x), .string (bs y)] 49) := ⟨_, rfl⟩
          rw [← hW5]
          have HM5 : Hid (MD w W5 w2.heap.size g v fs (bs b) (m + 6 + 6 * (2 - k) + 3 + 3)) := by rw [hW5]; exact HM4.out.old ((Below.refl _ _).alloc (Nat.le_refl _) _)
          have HF : Hid (W5.heap[W4.heap.size]? = some (.cells #[.string (bs x), .string (bs y)] 49 (0, 0))) := by rw [hW5]; exact heap_alloc_new _ _
          have hq5 : W4.heap.size < W5.heap.size := by rw [hW5]; simp
          clear hW5
          refine wpAnyH_ready (rs := [10]) (by kernel_rfl) (by simp) ?_
          refine (AllReadyH.cons (o := ⟨some 26, _, _, _, _, _⟩) rfl (fun K hK => ?_) AllReadyH.nil)
          have hzl := HM5.out.lt
          refine step_push_one elField rfl _ _ rfl (w.heap.size + 1) v fs.length (flat encP fs) rfl HM5.out.own W4.heap.size [.string (bs x), .string (bs y)] HF.out rfl rfl (by simp [Value.oneCell']) (by simp only [maxLen]; omega) (by omega) (by omega) ?_
          intro v6 w6 hp6
          obtain ⟨A6, c6, rfl, _⟩ := own_form hp6.1
          have HM6 := Lib.hid (HM5.out.push (f := (bs x, bs y)) hp6 rfl)
          obtain ⟨s0, s1⟩ := MD.pushedCells HM5.out hp6
          clear hp6 hzl
          refine hK.out _ _ ?_ (fun hHeld => ?_)
          · trivial
          clear hK K
          (try simp only [Act.put, List.setIfInBounds_toArray, List.set_cons_zero, List.set_cons_succ])
          refine wpAnyH_take (i := 11) (oi := ⟨some 27, _, _, _, _, _⟩) (v := ?_) rfl (by kernel_rfl) (by kernel_rfl) (by kernel_rfl) (fun _ _ _ h => h) (Or.inl ⟨by simp [Region.wanted, yielded, undef], ?_⟩) (by assumption) ?_
          rotate_left
          · ((intro w hSw; (try dsimp only at hSw); go_simp) <;> with_reducible rfl)
          (try simp only [Act.put, List.setIfInBounds_toArray, List.set_cons_zero, List.set_cons_succ])
          refine wpAnyH_ready (rs := [12]) (by kernel_rfl) (by simp) ?_
          refine (AllReadyH.cons rfl (fun K hK => ?_) AllReadyH.nil)
          go_simp
          refine hK.out _ _ ?_ (fun hHeld => ?_)
          · trivial
          clear hK K
          (try simp only [Act.put, List.setIfInBounds_toArray, List.set_cons_zero, List.set_cons_succ])
          refine wpAnyH_done (by kernel_rfl) ?_ _
          refine NoPanic.normal ?_
          go_wp2_with fail
          go_roundw
          case rel =>
            refine ⟨k - 1, fs ++ [(bs x, bs y)], _, by omega, by simp; omega, by go_num, ?_, ⟨HM6.out.res, HM6.out.box, HM6.out.own, HM6.out.src.more (by omega), HM6.out.grown, HM6.out.gt, HM6.out.lo⟩⟩
            intro f hf
            rw [List.mem_append] at hf
            rcases hf with hf | hf
            · exact HALL.out f hf
            · exact ⟨x, HDx.out, y, HDy.out, List.mem_singleton.1 hf⟩
          case measure => simp [intOf]; omega
      · go_simp
        refine hK.out _ _ ?_ (fun hHeld => ?_)
        · trivial
        clear hK K
        (try simp only [Act.put, List.setIfInBounds_toArray, List.set_cons_zero, List.set_cons_succ])
        obtain ⟨W1, hW1⟩ : ∃ W : World, W = W0.alloc (.cells #[.string ⟨#[83, 117, 98, 106, 101, 99, 116]⟩, .string ⟨#[70, 114, 111, 109]⟩, .string ⟨#[88, 45, 89]⟩, .string ⟨#[115, 117, 98, 106, 101, 99, 116]⟩] 9) := ⟨_, rfl⟩
        rw [← hW1]
        have hb1 : Below W0.heap.size W0 W1 := by rw [hW1]; exact (Below.refl _ _).alloc (Nat.le_refl _) _
        have hq1 : W0.heap.size < W1.heap.size := by rw [hW1]; simp
        have HM1 := Lib.hid (HM0.out.old hb1)
        have HX3 : Hid (∀ j, (hj : j < drawnNames.length) → W1.cell? ⟨W0.heap.size, j, none⟩ = some (sv drawnNames[j])) := by
          rw [hW1]
          intro j hj
          have hj2 : j < 4 := hj
          match j, hj2 with
          | 0, _ => simp [go_sem]; rfl
          | 1, _ => simp [go_sem]; rfl
          | 2, _ => simp [go_sem]; rfl
          | 3, _ => simp [go_sem]; rfl
        clear hW1 hb1
        refine wpAnyH_ready (rs := [1, 4, 6]) (by kernel_rfl) (by simp) ?_
        refine (AllReadyH.cons (o := ⟨some 17, _, _, _, _, _⟩) rfl (fun K hK => ?_) (AllReadyH.cons (o := ⟨some 20, _, _, _, _, _⟩) rfl (fun K hK => ?_) (AllReadyH.cons (o := ⟨some 22, _, _, _, _, _⟩) rfl (fun K hK => ?_) AllReadyH.nil)))
        · have c2 := HM1.out.cells.2.2.1
          go_simp
          clear c2
          refine hK.out _ _ ?_ (fun hHeld => ?_)
          · trivial
          clear hK K
          (try simp only [Act.put, List.setIfInBounds_toArray, List.set_cons_zero, List.set_cons_succ])
          refine wpAnyH_ready (rs := [4, 6]) (by kernel_rfl) (by simp) ?_
          refine (AllReadyH.cons (o := ⟨some 20, _, _, _, _, _⟩) rfl (fun K hK => ?_) (AllReadyH.cons (o := ⟨some 22, _, _, _, _, _⟩) rfl (fun K hK => ?_) AllReadyH.nil))
          · have hlo := HM1.out.lo
            go_simp
            refine (HPN.out W1 _ W0.heap.size HM1.out.src (by omega) (by omega) (by omega) HX3.out).mono ?_
            rintro e W2 ⟨x, hx, rfl, hs, hg⟩
            have hq2 := hg.size
            have HM2 := Lib.hid (HM1.out.next hs hg)
            have HDx := Lib.hid hx
            clear hx hs hg hlo
            go_wp2_with fail
            refine hK.out _ _ ?_ (fun hHeld => ?_)
            · trivial
            clear hK K
            (try simp only [Act.put, List.setIfInBounds_toArray, List.set_cons_zero, List.set_cons_succ])
            refine wpAnyH_ready (rs := [6]) (by kernel_rfl) (by simp) ?_
            refine (AllReadyH.cons (o := ⟨some 22, _, _, _, _, _⟩) rfl (fun K hK => ?_) AllReadyH.nil)
            go_simp
            refine hK.out _ _ ?_ (fun hHeld => ?_)
            · trivial
            clear hK K
            (try simp only [Act.put, List.setIfInBounds_toArray, List.set_cons_zero, List.set_cons_succ])
            obtain ⟨W3, hW3⟩ : ∃ W : World, W = W2.alloc (.cells #[.string ⟨#[]⟩, .string ⟨#[111, 110, 101]⟩, .string ⟨#[97, 58, 32, 98]⟩, .string ⟨#[116, 119, 111, 32, 119, 111, 114, 100, 115]⟩] 9) := ⟨_, rfl⟩
            rw [← hW3]
            have hb3 : Below W2.heap.size W2 W3 := by rw [hW3]; exact (Below.refl _ _).alloc (Nat.le_refl _) _
            have hq3 : W2.heap.size < W3.heap.size := by rw [hW3]; simp
            have HM3 := Lib.hid (HM2.out.old hb3)
            have HX6 : Hid (∀ j, (hj : j < drawnValues.length) → W3.cell? ⟨W2.heap.size, j, none⟩ = some (sv drawnValues[j])) := by
              rw [hW3]
              intro j hj
              have hj2 : j < 4 := hj
              match j, hj2 with
              | 0, _ => simp [go_sem]; rfl
              | 1, _ => simp [go_sem]; rfl
              | 2, _ => simp [go_sem]; rfl
              | 3, _ => simp [go_sem]; rfl
            clear hW3 hb3
            refine wpAnyH_ready (rs := [7]) (by kernel_rfl) (by simp) ?_
            refine (AllReadyH.cons (o := ⟨some 23, _, _, _, _, _⟩) rfl (fun K hK => ?_) AllReadyH.nil)
            have hlo := HM3.out.lo
            go_simp
            refine (HPV.out W3 _ W2.heap.size HM3.out.src (by omega) (by omega) (by omega) HX6.out).mono ?_
            rintro e W4 ⟨y, hx, rfl, hs, hg⟩
            have hq4 := hg.size
            have HM4 := Lib.hid (HM3.out.next hs hg)
            have HDy := Lib.hid hx
            clear hx hs hg hlo
            go_wp2_with fail
            refine hK.out _ _ ?_ (fun hHeld => ?_)
            · trivial
            clear hK K
            (try simp only [Act.put, List.setIfInBounds_toArray, List.set_cons_zero, List.set_cons_succ])
            refine wpAnyH_take (i := 8) (oi := ⟨some 24, _, _, _, _, _⟩) (v := ?_) rfl (by kernel_rfl) (by kernel_rfl) (by kernel_rfl) (fun _ _ _ h => h) (Or.inl ⟨by simp [Region.wanted, yielded, undef], ?_⟩) (by assumption) ?_
            rotate_left
            · ((intro w hSw; (try dsimp only at hSw); go_simp) <;> with_reducible rfl)
            (try simp only [Act.put, List.setIfInBounds_toArray, List.set_cons_zero, List.set_cons_succ])
            refine wpAnyH_ready (rs := [9]) (by kernel_rfl) (by simp) ?_
            refine (AllReadyH.cons (o := ⟨some 25, _, _, _, _, _⟩) rfl (fun K hK => ?_) AllReadyH.nil)
            go_simp
            refine hK.out _ _ ?_ (fun hHeld => ?_)
            · trivial
            clear hK K
            (try simp only [Act.put, List.setIfInBounds_toArray, List.set_cons_zero, List.set_cons_succ])
            obtain ⟨W5, hW5⟩ : ∃ W : World, W = W4.alloc (.cells #[.string (bs x), .string (bs y)] 49) := ⟨_, rfl⟩
            rw [← hW5]
            have HM5 : Hid (MD w W5 w2.heap.size g v fs (bs b) (m + 6 + 6 * (2 - k) + 3 + 3)) := by rw [hW5]; exact HM4.out.old ((Below.refl _ _).alloc (Nat.le_refl _) _)
            have HF : Hid (W5.heap[W4.heap.size]? = some (.cells #[.string (bs x), .string (bs y)] 49 (0, 0))) := by rw [hW5]; exact heap_alloc_new _ _
            have hq5 : W4.heap.size < W5.heap.size := by rw [hW5]; simp
            clear hW5
            refine wpAnyH_ready (rs := [10]) (by kernel_rfl) (by simp) ?_
            refine (AllReadyH.cons (o := ⟨some 26, _, _, _, _, _⟩) rfl (fun K hK => ?_) AllReadyH.nil)
            have hzl := HM5.out.lt
            refine step_push_one elField rfl _ _ rfl (w.heap.size + 1) v fs.length (flat encP fs) rfl HM5.out.own W4.heap.size [.string (bs x), .string (bs y)] HF.out rfl rfl (by simp [Value.oneCell']) (by simp only [maxLen]; omega) (by omega) (by omega) ?_
            intro v6 w6 hp6
            obtain ⟨A6, c6, rfl, _⟩ := own_form hp6.1
            have HM6 := Lib.hid (HM5.out.push (f := (bs x, bs y)) hp6 rfl)
            obtain ⟨s0, s1⟩ := MD.pushedCells HM5.out hp6
            clear hp6 hzl
            refine hK.out _ _ ?_ (fun hHeld => ?_)
            · trivial
            clear hK K
            (try simp only [Act.put, List.setIfInBounds_toArray, List.set_cons_zero, List.set_cons_succ])
            refine wpAnyH_take (i := 11) (oi := ⟨some 27, _, _, _, _, _⟩) (v := ?_) rfl (by kernel_rfl) (by kernel_rfl) (by kernel_rfl) (fun _ _ _ h => h) (Or.inl ⟨by simp [Region.wanted, yielded, undef], ?_⟩) (by assumption) ?_
            rotate_left
            · ((intro w hSw; (try dsimp only at hSw); go_simp) <;> with_reducible rfl)
            (try simp only [Act.put, List.setIfInBounds_toArray, List.set_cons_zero, List.set_cons_succ])
            refine wpAnyH_ready (rs := [12]) (by kernel_rfl) (by simp) ?_
            refine (AllReadyH.cons rfl (fun K hK => ?_) AllReadyH.nil)
            go_simp
            refine hK.out _ _ ?_ (fun hHeld => ?_)
            · trivial
            clear hK K
            (try simp only [Act.put, List.setIfInBounds_toArray, List.set_cons_zero, List.set_cons_succ])
            refine wpAnyH_done (by kernel_rfl) ?_ _
            refine NoPanic.normal ?_
            go_wp2_with fail
            go_roundw
            case rel =>
              refine ⟨k - 1, fs ++ [(bs x, bs y)], _, by omega, by simp; omega, by go_num, ?_, ⟨HM6.out.res, HM6.out.box, HM6.out.own, HM6.out.src.more (by omega), HM6.out.grown, HM6.out.gt, HM6.out.lo⟩⟩
              intro f hf
              rw [List.mem_append] at hf
              rcases hf with hf | hf
              · exact HALL.out f hf
              · exact ⟨x, HDx.out, y, HDy.out, List.mem_singleton.1 hf⟩
            case measure => simp [intOf]; omega
          · go_simp
            refine hK.out _ _ ?_ (fun hHeld => ?_)
            · trivial
            clear hK K
            (try simp only [Act.put, List.setIfInBounds_toArray, List.set_cons_zero, List.set_cons_succ])
            obtain ⟨W2, hW2⟩ : ∃ W : World, W = W1.alloc (.cells #[.string ⟨#[]⟩, .string ⟨#[111, 110, 101]⟩, .string ⟨#[97, 58, 32, 98]⟩, .string ⟨#[116, 119, 111, 32, 119, 111, 114, 100, 115]⟩] 9) := ⟨_, rfl⟩
            rw [← hW2]
            have hb2 : Below W1.heap.size W1 W2 := by rw [hW2]; exact (Below.refl _ _).alloc (Nat.le_refl _) _
            have hq2 : W1.heap.size < W2.heap.size := by rw [hW2]; simp
            have HM2 := Lib.hid (HM1.out.old hb2)
            have HX6 : Hid (∀ j, (hj : j < drawnValues.length) → W2.cell? ⟨W1.heap.size, j, none⟩ = some (sv drawnValues[j])) := by
              rw [hW2]
              intro j hj
              have hj2 : j < 4 := hj
              match j, hj2 with
              | 0, _ => simp [go_sem]; rfl
              | 1, _ => simp [go_sem]; rfl
              | 2, _ => simp [go_sem]; rfl
              | 3, _ => simp [go_sem]; rfl
            have HX3 := Lib.hid (fun j hj => (World.cell?_of_block (hb2.block W0.heap.size (by omega))).trans (HX3.out j hj))
            clear hW2 hb2
            refine wpAnyH_ready (rs := [4]) (by kernel_rfl) (by simp) ?_
            refine (AllReadyH.cons (o := ⟨some 20, _, _, _, _, _⟩) rfl (fun K hK => ?_) AllReadyH.nil)
            have hlo := HM2.out.lo
            go_simp
            refine (HPN.out W2 _ W0.heap.size HM2.out.src (by omega) (by omega) (by omega) HX3.out).mono ?_
            rintro e W3 ⟨x, hx, rfl, hs, hg⟩
            have hq3 := hg.size
            have HM3 := Lib.hid (HM2.out.next hs hg)
            have HDx := Lib.hid hx
            have HX6 := Lib.hid (fun j hj => (World.cell?_of_block (hg.block W1.heap.size (by omega) (fun e => by injection e; omega))).trans (HX6.out j hj))
            clear hx hs hg hlo
            go_wp2_with fail
            refine hK.out _ _ ?_ (fun hHeld => ?_)
            · trivial
            clear hK K
            (try simp only [Act.put, List.setIfInBounds_toArray, List.set_cons_zero, List.set_cons_succ])
            refine wpAnyH_ready (rs := [7]) (by kernel_rfl) (by simp) ?_
            refine (AllReadyH.cons (o := ⟨some 23, _, _, _, _, _⟩) rfl (fun K hK => ?_) AllReadyH.nil)
            have hlo := HM3.out.lo
            go_simp
            refine (HPV.out W3 _ W1.heap.size HM3.out.src (by omega) (by omega) (by omega) HX6.out).mono ?_
            rintro e W4 ⟨y, hx, rfl, hs, hg⟩
            have hq4 := hg.size
            have HM4 := Lib.hid (HM3.out.next hs hg)
            have HDy := Lib.hid hx
            clear hx hs hg hlo
            go_wp2_with fail
            refine hK.out _ _ ?_ (fun hHeld => ?_)
            · trivial
            clear hK K
            (try simp only [Act.put, List.setIfInBounds_toArray, List.set_cons_zero, List.set_cons_succ])
            refine wpAnyH_take (i := 8) (oi := ⟨some 24, _, _, _, _, _⟩) (v := ?_) rfl (by kernel_rfl) (by kernel_rfl) (by kernel_rfl) (fun _ _ _ h => h) (Or.inl ⟨by simp [Region.wanted, yielded, undef], ?_⟩) (by assumption) ?_
            rotate_left
            · ((intro w hSw; (try dsimp only at hSw); go_simp) <;> with_reducible rfl)
            (try simp only [Act.put, List.setIfInBounds_toArray, List.set_cons_zero, List.set_cons_succ])
            refine wpAnyH_ready (rs := [9]) (by kernel_rfl) (by simp) ?_
            refine (AllReadyH.cons (o := ⟨some 25, _, _, _, _, _⟩) rfl (fun K hK => ?_) AllReadyH.nil)
            go_simp
            refine hK.out _ _ ?_ (fun hHeld => ?_)
            · trivial
            clear hK K
            (try simp only [Act.put, List.setIfInBounds_toArray, List.set_cons_zero, List.set_cons_succ])
            obtain ⟨W5, hW5⟩ : ∃ W : World, W = W4.alloc (.cells #[.string (bs x), .string (bs y)] 49) := ⟨_, rfl⟩
            rw [← hW5]
            have HM5 : Hid (MD w W5 w2.heap.size g v fs (bs b) (m + 6 + 6 * (2 - k) + 3 + 3)) := by rw [hW5]; exact HM4.out.old ((Below.refl _ _).alloc (Nat.le_refl _) _)
            have HF : Hid (W5.heap[W4.heap.size]? = some (.cells #[.string (bs x), .string (bs y)] 49 (0, 0))) := by rw [hW5]; exact heap_alloc_new _ _
            have hq5 : W4.heap.size < W5.heap.size := by rw [hW5]; simp
            clear hW5
            refine wpAnyH_ready (rs := [10]) (by kernel_rfl) (by simp) ?_
            refine (AllReadyH.cons (o := ⟨some 26, _, _, _, _, _⟩) rfl (fun K hK => ?_) AllReadyH.nil)
            have hzl := HM5.out.lt
            refine step_push_one elField rfl _ _ rfl (w.heap.size + 1) v fs.length (flat encP fs) rfl HM5.out.own W4.heap.size [.string (bs x), .string (bs y)] HF.out rfl rfl (by simp [Value.oneCell']) (by simp only [maxLen]; omega) (by omega) (by omega) ?_
            intro v6 w6 hp6
            obtain ⟨A6, c6, rfl, _⟩ := own_form hp6.1
            have HM6 := Lib.hid (HM5.out.push (f := (bs x, bs y)) hp6 rfl)
            obtain ⟨s0, s1⟩ := MD.pushedCells HM5.out hp6
            clear hp6 hzl
            refine hK.out _ _ ?_ (fun hHeld => ?_)
            · trivial
            clear hK K
            (try simp only [Act.put, List.setIfInBounds_toArray, List.set_cons_zero, List.set_cons_succ])
            refine wpAnyH_take (i := 11) (oi := ⟨some 27, _, _, _, _, _⟩) (v := ?_) rfl (by kernel_rfl) (by kernel_rfl) (by kernel_rfl) (fun _ _ _ h => h) (Or.inl ⟨by simp [Region.wanted, yielded, undef], ?_⟩) (by assumption) ?_
            rotate_left
            · ((intro w hSw; (try dsimp only at hSw); go_simp) <;> with_reducible rfl)
            (try simp only [Act.put, List.setIfInBounds_toArray, List.set_cons_zero, List.set_cons_succ])
            refine wpAnyH_ready (rs := [12]) (by kernel_rfl) (by simp) ?_
            refine (AllReadyH.cons rfl (fun K hK => ?_) AllReadyH.nil)
            go_simp
            refine hK.out _ _ ?_ (fun hHeld => ?_)
            · trivial
            clear hK K
            (try simp only [Act.put, List.setIfInBounds_toArray, List.set_cons_zero, List.set_cons_succ])
            refine wpAnyH_done (by kernel_rfl) ?_ _
            refine NoPanic.normal ?_
            go_wp2_with fail
            go_roundw
            case rel =>
              refine ⟨k - 1, fs ++ [(bs x, bs y)], _, by omega, by simp; omega, by go_num, ?_, ⟨HM6.out.res, HM6.out.box, HM6.out.own, HM6.out.src.more (by omega), HM6.out.grown, HM6.out.gt, HM6.out.lo⟩⟩
              intro f hf
              rw [List.mem_append] at hf
              rcases hf with hf | hf
              · exact HALL.out f hf
              · exact ⟨x, HDx.out, y, HDy.out, List.mem_singleton.1 hf⟩
            case measure => simp [intOf]; omega
        · have hlo := HM1.out.lo
          go_simp
          refine (HPN.out W1 _ W0.heap.size HM1.out.src (by omega) (by omega) (by omega) HX3.out).mono ?_
          rintro e W2 ⟨x, hx, rfl, hs, hg⟩
          have hq2 := hg.size
          have HM2 := Lib.hid (HM1.out.next hs hg)
          have HDx := Lib.hid hx
          clear hx hs hg hlo
          go_wp2_with fail
          refine hK.out _ _ ?_ (fun hHeld => ?_)
          · trivial
          clear hK K
          (try simp only [Act.put, List.setIfInBounds_toArray, List.set_cons_zero, List.set_cons_succ])
          refine wpAnyH_ready (rs := [1, 6]) (by kernel_rfl) (by simp) ?_
          refine (AllReadyH.cons (o := ⟨some 17, _, _, _, _, _⟩) rfl (fun K hK => ?_) (AllReadyH.cons (o := ⟨some 22, _, _, _, _, _⟩) rfl (fun K hK => ?_) AllReadyH.nil))
          · have c2 := HM2.out.cells.2.2.1
            go_simp
            clear c2
            refine hK.out _ _ ?_ (fun hHeld => ?_)
            · trivial
            clear hK K
            (try simp only [Act.put, List.setIfInBounds_toArray, List.set_cons_zero, List.set_cons_succ])
            refine wpAnyH_ready (rs := [6]) (by kernel_rfl) (by simp) ?_
            refine (AllReadyH.cons (o := ⟨some 22, _, _, _, _, _⟩) rfl (fun K hK => ?_) AllReadyH.nil)
            go_simp
            refine hK.out _ _ ?_ (fun hHeld => ?_)
            · trivial
            clear hK K
            (try simp only [Act.put, List.setIfInBounds_toArray, List.set_cons_zero, List.set_cons_succ])
            obtain ⟨W3, hW3⟩ : ∃ W : World, W = W2.alloc (.cells #[.string ⟨#[]⟩, .string ⟨#[111, 110, 101]⟩, .string ⟨#[97, 58, 32, 98]⟩, .string ⟨#[116, 119, 111, 32, 119, 111, 114, 100, 115]⟩] 9) := ⟨_, rfl⟩
            rw [← hW3]
            have hb3 : Below W2.heap.size W2 W3 := by rw [hW3]; exact (Below.refl _ _).alloc (Nat.le_refl _) _
            have hq3 : W2.heap.size < W3.heap.size := by rw [hW3]; simp
            have HM3 := Lib.hid (HM2.out.old hb3)
            have HX6 : Hid (∀ j, (hj : j < drawnValues.length) → W3.cell? ⟨W2.heap.size, j, none⟩ = some (sv drawnValues[j])) := by
              rw [hW3]
              intro j hj
              have hj2 : j < 4 := hj
              match j, hj2 with
              | 0, _ => simp [go_sem]; rfl
              | 1, _ => simp [go_sem]; rfl
              | 2, _ => simp [go_sem]; rfl
              | 3, _ => simp [go_sem]; rfl
            clear hW3 hb3
            refine wpAnyH_ready (rs := [7]) (by kernel_rfl) (by simp) ?_
            refine (AllReadyH.cons (o := ⟨some 23, _, _, _, _, _⟩) rfl (fun K hK => ?_) AllReadyH.nil)
            have hlo := HM3.out.lo
            go_simp
            refine (HPV.out W3 _ W2.heap.size HM3.out.src (by omega) (by omega) (by omega) HX6.out).mono ?_
            rintro e W4 ⟨y, hx, rfl, hs, hg⟩
            have hq4 := hg.size
            have HM4 := Lib.hid (HM3.out.next hs hg)
            have HDy := Lib.hid hx
            clear hx hs hg hlo
            go_wp2_with fail
            refine hK.out _ _ ?_ (fun hHeld => ?_)
            · trivial
            clear hK K
            (try simp only [Act.put, List.setIfInBounds_toArray, List.set_cons_zero, List.set_cons_succ])
            refine wpAnyH_take (i := 8) (oi := ⟨some 24, _, _, _, _, _⟩) (v := ?_) rfl (by kernel_rfl) (by kernel_rfl) (by kernel_rfl) (fun _ _ _ h => h) (Or.inl ⟨by simp [Region.wanted, yielded, undef], ?_⟩) (by assumption) ?_
            rotate_left
            · ((intro w hSw; (try dsimp only at hSw); go_simp) <;> with_reducible rfl)
            (try simp only [Act.put, List.setIfInBounds_toArray, List.set_cons_zero, List.set_cons_succ])
            refine wpAnyH_ready (rs := [9]) (by kernel_rfl) (by simp) ?_
            refine (AllReadyH.cons (o := ⟨some 25, _, _, _, _, _⟩) rfl (fun K hK => ?_) AllReadyH.nil)
            go_simp
            refine hK.out _ _ ?_ (fun hHeld => ?_)
            · trivial
            clear hK K
            (try simp only [Act.put, List.setIfInBounds_toArray, List.set_cons_zero, List.set_cons_succ])
            obtain ⟨W5, hW5⟩ : ∃ W : World, W = W4.alloc (.cells #[.string (bs x), .string (bs y)] 49) := ⟨_, rfl⟩
            rw [← hW5]
            have HM5 : Hid (MD w W5 w2.heap.size g v fs (bs b) (m + 6 + 6 * (2 - k) + 3 + 3)) := by rw [hW5]; exact HM4.out.old ((Below.refl _ _).alloc (Nat.le_refl _) _)
            have HF : Hid (W5.heap[W4.heap.size]? = some (.cells #[.string (bs x), .string (bs y)] 49 (0, 0))) := by rw [hW5]; exact heap_alloc_new _ _
            have hq5 : W4.heap.size < W5.heap.size := by rw [hW5]; simp
            clear hW5
            refine wpAnyH_ready (rs := [10]) (by kernel_rfl) (by simp) ?_
            refine (AllReadyH.cons (o := ⟨some 26, _, _, _, _, _⟩) rfl (fun K hK => ?_) AllReadyH.nil)
            have hzl := HM5.out.lt
            refine step_push_one elField rfl _ _ rfl (w.heap.size + 1) v fs.length (flat encP fs) rfl HM5.out.own W4.heap.size [.string (bs x), .string (bs y)] HF.out rfl rfl (by simp [Value.oneCell']) (by simp only [maxLen]; omega) (by omega) (by omega) ?_
            intro v6 w6 hp6
            obtain ⟨A6, c6, rfl, _⟩ := own_form hp6.1
            have HM6 := Lib.hid (HM5.out.push (f := (bs x, bs y)) hp6 rfl)
            obtain ⟨s0, s1⟩ := MD.pushedCells HM5.out hp6
            clear hp6 hzl
            refine hK.out _ _ ?_ (fun hHeld => ?_)
            · trivial
            clear hK K
            (try simp only [Act.put, List.setIfInBounds_toArray, List.set_cons_zero, List.set_cons_succ])
            refine wpAnyH_take (i := 11) (oi := ⟨some 27, _, _, _, _, _⟩) (v := ?_) rfl (by kernel_rfl) (by kernel_rfl) (by kernel_rfl) (fun _ _ _ h => h) (Or.inl ⟨by simp [Region.wanted, yielded, undef], ?_⟩) (by assumption) ?_
            rotate_left
            · ((intro w hSw; (try dsimp only at hSw); go_simp) <;> with_reducible rfl)
            (try simp only [Act.put, List.setIfInBounds_toArray, List.set_cons_zero, List.set_cons_succ])
            refine wpAnyH_ready (rs := [12]) (by kernel_rfl) (by simp) ?_
            refine (AllReadyH.cons rfl (fun K hK => ?_) AllReadyH.nil)
            go_simp
            refine hK.out _ _ ?_ (fun hHeld => ?_)
            · trivial
            clear hK K
            (try simp only [Act.put, List.setIfInBounds_toArray, List.set_cons_zero, List.set_cons_succ])
            refine wpAnyH_done (by kernel_rfl) ?_ _
            refine NoPanic.normal ?_
            go_wp2_with fail
            go_roundw
            case rel =>
              refine ⟨k - 1, fs ++ [(bs x, bs y)], _, by omega, by simp; omega, by go_num, ?_, ⟨HM6.out.res, HM6.out.box, HM6.out.own, HM6.out.src.more (by omega), HM6.out.grown, HM6.out.gt, HM6.out.lo⟩⟩
              intro f hf
              rw [List.mem_append] at hf
              rcases hf with hf | hf
              · exact HALL.out f hf
              · exact ⟨x, HDx.out, y, HDy.out, List.mem_singleton.1 hf⟩
            case measure => simp [intOf]; omega
          · go_simp
            refine hK.out _ _ ?_ (fun hHeld => ?_)
            · trivial
            clear hK K
            (try simp only [Act.put, List.setIfInBounds_toArray, List.set_cons_zero, List.set_cons_succ])
            obtain ⟨W3, hW3⟩ : ∃ W : World, W = W2.alloc (.cells #[.string ⟨#[]⟩, .string ⟨#[111, 110, 101]⟩, .string ⟨#[97, 58, 32, 98]⟩, .string ⟨#[116, 119, 111, 32, 119, 111, 114, 100, 115]⟩] 9) := ⟨_, rfl⟩
            rw [← hW3]
            have hb3 : Below W2.heap.size W2 W3 := by rw [hW3]; exact (Below.refl _ _).alloc (Nat.le_refl _) _
            have hq3 : W2.heap.size < W3.heap.size := by rw [hW3]; simp
            have HM3 := Lib.hid (HM2.out.old hb3)
            have HX6 : Hid (∀ j, (hj : j < drawnValues.length) → W3.cell? ⟨W2.heap.size, j, none⟩ = some (sv drawnValues[j])) := by
              rw [hW3]
              intro j hj
              have hj2 : j < 4 := hj
              match j, hj2 with
              | 0, _ => simp [go_sem]; rfl
              | 1, _ => simp [go_sem]; rfl
              | 2, _ => simp [go_sem]; rfl
              | 3, _ => simp [go_sem]; rfl
            clear hW3 hb3
            refine wpAnyH_ready (rs := [1, 7]) (by kernel_rfl) (by simp) ?_
            refine (AllReadyH.cons (o := ⟨some 17, _, _, _, _, _⟩) rfl (fun K hK => ?_) (AllReadyH.cons (o := ⟨some 23, _, _, _, _, _⟩) rfl (fun K hK => ?_) AllReadyH.nil))
            · have c2 := HM3.out.cells.2.2.1
              go_simp
              clear c2
              refine hK.out _ _ ?_ (fun hHeld => ?_)
              · trivial
              clear hK K
              (try simp only [Act.put, List.setIfInBounds_toArray, List.set_cons_zero, List.set_cons_succ])
              refine wpAnyH_ready (rs := [7]) (by kernel_rfl) (by simp) ?_
              refine (AllReadyH.cons (o := ⟨some 23, _, _, _, _, _⟩) rfl (fun K hK => ?_) AllReadyH.nil)
              have hlo := HM3.out.lo
              go_simp
              refine (HPV.out W3 _ W2.heap.size HM3.out.src (by omega) (by omega) (by omega) HX6.out).mono ?_
              rintro e W4 ⟨y, hx, rfl, hs, hg⟩
              have hq4 := hg.size
              have HM4 := Lib.hid (HM3.out.next hs hg)
              have HDy := Lib.hid hx
              clear hx hs hg hlo
              go_wp2_with fail
              refine hK.out _ _ ?_ (fun hHeld => ?_)
              · trivial
              clear hK K
              (try simp only [Act.put, List.setIfInBounds_toArray, List.set_cons_zero, List.set_cons_succ])
              refine wpAnyH_take (i := 8) (oi := ⟨some 24, _, _, _, _, _⟩) (v := ?_) rfl (by kernel_rfl) (by kernel_rfl) (by kernel_rfl) (fun _ _ _ h => h) (Or.inl ⟨by simp [Region.wanted, yielded, undef], ?_⟩) (by assumption) ?_
              rotate_left
              · ((intro w hSw; (try dsimp only at hSw); go_simp) <;> with_reducible rfl)
              (try simp only [Act.put, List.setIfInBounds_toArray, List.set_cons_zero, List.set_cons_succ])
              refine wpAnyH_ready (rs := [9]) (by kernel_rfl) (by simp) ?_
              refine (AllReadyH.cons (o := ⟨some 25, _, _, _, _, _⟩) rfl (fun K hK => ?_) AllReadyH.nil)
              go_simp
              refine hK.out _ _ ?_ (fun hHeld => ?_)
              · trivial
              clear hK K
              (try simp only [Act.put, List.setIfInBounds_toArray, List.set_cons_zero, List.set_cons_succ])
              obtain ⟨W5, hW5⟩ : ∃ W : World, W = W4.alloc (.cells #[.string (bs x), .string (bs y)] 49) := ⟨_, rfl⟩
              rw [← hW5]
              have HM5 : Hid (MD w W5 w2.heap.size g v fs (bs b) (m + 6 + 6 * (2 - k) + 3 + 3)) := by rw [hW5]; exact HM4.out.old ((Below.refl _ _).alloc (Nat.le_refl _) _)
              have HF : Hid (W5.heap[W4.heap.size]? = some (.cells #[.string (bs x), .string (bs y)] 49 (0, 0))) := by rw [hW5]; exact heap_alloc_new _ _
              have hq5 : W4.heap.size < W5.heap.size := by rw [hW5]; simp
              clear hW5
              refine wpAnyH_ready (rs := [10]) (by kernel_rfl) (by simp) ?_
              refine (AllReadyH.cons (o := ⟨some 26, _, _, _, _, _⟩) rfl (fun K hK => ?_) AllReadyH.nil)
              have hzl := HM5.out.lt
              refine step_push_one elField rfl _ _ rfl (w.heap.size + 1) v fs.length (flat encP fs) rfl HM5.out.own W4.heap.size [.string (bs x), .string (bs y)] HF.out rfl rfl (by simp [Value.oneCell']) (by simp only [maxLen]; omega) (by omega) (by omega) ?_
              intro v6 w6 hp6
              obtain ⟨A6, c6, rfl, _⟩ := own_form hp6.1
              have HM6 := Lib.hid (HM5.out.push (f := (bs x, bs y)) hp6 rfl)
              obtain ⟨s0, s1⟩ := MD.pushedCells HM5.out hp6
              clear hp6 hzl
              refine hK.out _ _ ?_ (fun hHeld => ?_)
              · trivial
              clear hK K
              (try simp only [Act.put, List.setIfInBounds_toArray, List.set_cons_zero, List.set_cons_succ])
              refine wpAnyH_take (i := 11) (oi := ⟨some 27, _, _, _, _, _⟩) (v := ?_) rfl (by kernel_rfl) (by kernel_rfl) (by kernel_rfl) (fun _ _ _ h => h) (Or.inl ⟨by simp [Region.wanted, yielded, undef], ?_⟩) (by assumption) ?_
              rotate_left
              · ((intro w hSw; (try dsimp only at hSw); go_simp) <;> with_reducible rfl)
              (try simp only [Act.put, List.setIfInBounds_toArray, List.set_cons_zero, List.set_cons_succ])
              refine wpAnyH_ready (rs := [12]) (by kernel_rfl) (by simp) ?_
              refine (AllReadyH.cons rfl (fun K hK => ?_) AllReadyH.nil)
              go_simp
              refine hK.out _ _ ?_ (fun hHeld => ?_)
              · trivial
              clear hK K
              (try simp only [Act.put, List.setIfInBounds_toArray, List.set_cons_zero, List.set_cons_succ])
              refine wpAnyH_done (by kernel_rfl) ?_ _
              refine NoPanic.normal ?_
              go_wp2_with fail
              go_roundw
              case rel =>
                refine ⟨k - 1, fs ++ [(bs x, bs y)], _, by omega, by simp; omega, by go_num, ?_, ⟨HM6.out.res, HM6.out.box, HM6.out.own, HM6.out.src.more (by omega), HM6.out.grown, HM6.out.gt, HM6.out.lo⟩⟩
                intro f hf
                rw [List.mem_append] at hf
                rcases hf with hf | hf
                · exact HALL.out f hf
                · exact ⟨x, HDx.out, y, HDy.out, List.mem_singleton.1 hf⟩
              case measure => simp [intOf]; omega
            · have hlo := HM3.out.lo
              go_simp
              refine (HPV.out W3 _ W2.heap.size HM3.out.src (by omega) (by omega) (by omega) HX6.out).mono ?_
              rintro e W4 ⟨y, hx, rfl, hs, hg⟩
              have hq4 := hg.size
              have HM4 := Lib.hid (HM3.out.next hs hg)
              have HDy := Lib.hid hx
              clear hx hs hg hlo
              go_wp2_with fail
              refine hK.out _ _ ?_ (fun hHeld => ?_)
              · trivial
              clear hK K
              (try simp only [Act.put, List.setIfInBounds_toArray, List.set_cons_zero, List.set_cons_succ])
              refine wpAnyH_take (i := 8) (oi := ⟨some 24, _, _, _, _, _⟩) (v := ?_) rfl (by kernel_rfl) (by kernel_rfl) (by kernel_rfl) (fun _ _ _ h => h) (Or.inl ⟨by simp [Region.wanted, yielded, undef], ?_⟩) (by assumption) ?_
              rotate_left
              · ((intro w hSw; (try dsimp only at hSw); go_simp) <;> with_reducible rfl)
              (try simp only [Act.put, List.setIfInBounds_toArray, List.set_cons_zero, List.set_cons_succ])
              refine wpAnyH_ready (rs := [1, 9]) (by kernel_rfl) (by simp) ?_
              refine (AllReadyH.cons (o := ⟨some 17, _, _, _, _, _⟩) rfl (fun K hK => ?_) (AllReadyH.cons (o := ⟨some 25, _, _, _, _, _⟩) rfl (fun K hK => ?_) AllReadyH.nil))
              · have c2 := HM4.out.cells.2.2.1
                go_simp
                clear c2
                refine hK.out _ _ ?_ (fun hHeld => ?_)
                · trivial
                clear hK K
                (try simp only [Act.put, List.setIfInBounds_toArray, List.set_cons_zero, List.set_cons_succ])
                refine wpAnyH_ready (rs := [9]) (by kernel_rfl) (by simp) ?_
                refine (AllReadyH.cons (o := ⟨some 25, _, _, _, _, _⟩) rfl (fun K hK => ?_) AllReadyH.nil)
                go_simp
                refine hK.out _ _ ?_ (fun hHeld => ?_)
                · trivial
                clear hK K
                (try simp only [Act.put, List.setIfInBounds_toArray, List.set_cons_zero, List.set_cons_succ])
                obtain ⟨W5, hW5⟩ : ∃ W : World, W = W4.alloc (.cells #[.string (bs x), .string (bs y)] 49) := ⟨_, rfl⟩
                rw [← hW5]
                have HM5 : Hid (MD w W5 w2.heap.size g v fs (bs b) (m + 6 + 6 * (2 - k) + 3 + 3)) := by rw [hW5]; exact HM4.out.old ((Below.refl _ _).alloc (Nat.le_refl _) _)
                have HF : Hid (W5.heap[W4.heap.size]? = some (.cells #[.string (bs x), .string (bs y)] 49 (0, 0))) := by rw [hW5]; exact heap_alloc_new _ _
                have hq5 : W4.heap.size < W5.heap.size := by rw [hW5]; simp
                clear hW5
                refine wpAnyH_ready (rs := [10]) (by kernel_rfl) (by simp) ?_
                refine (AllReadyH.cons (o := ⟨some 26, _, _, _, _, _⟩) rfl (fun K hK => ?_) AllReadyH.nil)
                have hzl := HM5.out.lt
                refine step_push_one elField rfl _ _ rfl (w.heap.size + 1) v fs.length (flat encP fs) rfl HM5.out.own W4.heap.size [.string (bs x), .string (bs y)] HF.out rfl rfl (by simp [Value.oneCell']) (by simp only [maxLen]; omega) (by omega) (by omega) ?_
                intro v6 w6 hp6
                obtain ⟨A6, c6, rfl, _⟩ := own_form hp6.1
                have HM6 := Lib.hid (HM5.out.push (f := (bs x, bs y)) hp6 rfl)
                obtain ⟨s0, s1⟩ := MD.pushedCells HM5.out hp6
                clear hp6 hzl
                refine hK.out _ _ ?_ (fun hHeld => ?_)
                · trivial
                clear hK K
                (try simp only [Act.put, List.setIfInBounds_toArray, List.set_cons_zero, List.set_cons_succ])
                refine wpAnyH_take (i := 11) (oi := ⟨some 27, _, _, _, _, _⟩) (v := ?_) rfl (by kernel_rfl) (by kernel_rfl) (by kernel_rfl) (fun _ _ _ h => h) (Or.inl ⟨by simp [Region.wanted, yielded, undef], ?_⟩) (by assumption) ?_
                rotate_left
                · ((intro w hSw; (try dsimp only at hSw); go_simp) <;> with_reducible rfl)
                (try simp only [Act.put, List.setIfInBounds_toArray, List.set_cons_zero, List.set_cons_succ])
                refine wpAnyH_ready (rs := [12]) (by kernel_rfl) (by simp) ?_
                refine (AllReadyH.cons rfl (fun K hK => ?_) AllReadyH.nil)
                go_simp
                refine hK.out _ _ ?_ (fun hHeld => ?_)
                · trivial
                clear hK K
                (try simp only [Act.put, List.setIfInBounds_toArray, List.set_cons_zero, List.set_cons_succ])
                refine wpAnyH_done (by kernel_rfl) ?_ _
                refine NoPanic.normal ?_
                go_wp2_with fail
                go_roundw
                case rel =>
                  refine ⟨k - 1, fs ++ [(bs x, bs y)], _, by omega, by simp; omega, by go_num, ?_, ⟨HM6.out.res, HM6.out.box, HM6.out.own, HM6.out.src.more (by omega), HM6.out.grown, HM6.out.gt, HM6.out.lo⟩⟩
                  intro f hf
                  rw [List.mem_append] at hf
                  rcases hf with hf | hf
                  · exact HALL.out f hf
                  · exact ⟨x, HDx.out, y, HDy.out, List.mem_singleton.1 hf⟩
                case measure => simp [intOf]; omega
              · go_simp
                refine hK.out _ _ ?_ (fun hHeld => ?_)
                · trivial
                clear hK K
                (try simp only [Act.put, List.setIfInBounds_toArray, List.set_cons_zero, List.set_cons_succ])
                obtain ⟨W5, hW5⟩ : ∃ W : World, W = W4.alloc (.cells #[.string (bs x), .string (bs y)] 49) := ⟨_, rfl⟩
                rw [← hW5]
                have HM5 : Hid (MD w W5 w2.heap.size g v fs (bs b) (m + 6 + 6 * (2 - k) + 3 + 3)) := by rw [hW5]; exact HM4.out.old ((Below.refl _ _).alloc (Nat.le_refl _) _)
                have HF : Hid (W5.heap[W4.heap.size]? = some (.cells #[.string (bs x), .string (bs y)] 49 (0, 0))) := by rw [hW5]; exact heap_alloc_new _ _
                have hq5 : W4.heap.size < W5.heap.size := by rw [hW5]; simp
                clear hW5
                refine wpAnyH_ready (rs := [1]) (by kernel_rfl) (by simp) ?_
                refine (AllReadyH.cons (o := ⟨some 17, _, _, _, _, _⟩) rfl (fun K hK => ?_) AllReadyH.nil)
                have c2 := HM5.out.cells.2.2.1
                go_simp
                clear c2
                refine hK.out _ _ ?_ (fun hHeld => ?_)
                · trivial
                clear hK K
                (try simp only [Act.put, List.setIfInBounds_toArray, List.set_cons_zero, List.set_cons_succ])
                refine wpAnyH_ready (rs := [10]) (by kernel_rfl) (by simp) ?_
                refine (AllReadyH.cons (o := ⟨some 26, _, _, _, _, _⟩) rfl (fun K hK => ?_) AllReadyH.nil)
                have hzl := HM5.out.lt
                refine step_push_one elField rfl _ _ rfl (w.heap.size + 1) v fs.length (flat encP fs) rfl HM5.out.own W4.heap.size [.string (bs x), .string (bs y)] HF.out rfl rfl (by simp [Value.oneCell']) (by simp only [maxLen]; omega) (by omega) (by omega) ?_
                intro v6 w6 hp6
                obtain ⟨A6, c6, rfl, _⟩ := own_form hp6.1
                have HM6 := Lib.hid (HM5.out.push (f := (bs x, bs y)) hp6 rfl)
                obtain ⟨s0, s1⟩ := MD.pushedCells HM5.out hp6
                clear hp6 hzl
                refine hK.out _ _ ?_ (fun hHeld => ?_)
                · trivial
                clear hK K
                (try simp only [Act.put, List.setIfInBounds_toArray, List.set_cons_zero, List.set_cons_succ])
                refine wpAnyH_take (i := 11) (oi := ⟨some 27, _, _, _, _, _⟩) (v := ?_) rfl (by kernel_rfl) (by kernel_rfl) (by kernel_rfl) (fun _ _ _ h => h) (Or.inl ⟨by simp [Region.wanted, yielded, undef], ?_⟩) (by assumption) ?_
                rotate_left
                · ((intro w hSw; (try dsimp only at hSw); go_simp) <;> with_reducible rfl)
                (try simp only [Act.put, List.setIfInBounds_toArray, List.set_cons_zero, List.set_cons_succ])
                refine wpAnyH_ready (rs := [12]) (by kernel_rfl) (by simp) ?_
                refine (AllReadyH.cons rfl (fun K hK => ?_) AllReadyH.nil)
                go_simp
                refine hK.out _ _ ?_ (fun hHeld => ?_)
                · trivial
                clear hK K
                (try simp only [Act.put, List.setIfInBounds_toArray, List.set_cons_zero, List.set_cons_succ])
                refine wpAnyH_done (by kernel_rfl) ?_ _
                refine NoPanic.normal ?_
                go_wp2_with fail
                go_roundw
                case rel =>
                  refine ⟨k - 1, fs ++ [(bs x, bs y)], _, by omega, by simp; omega, by go_num, ?_, ⟨HM6.out.res, HM6.out.box, HM6.out.own, HM6.out.src.more (by omega), HM6.out.grown, HM6.out.gt, HM6.out.lo⟩⟩
                  intro f hf
                  rw [List.mem_append] at hf
                  rcases hf with hf | hf
                  · exact HALL.out f hf
                  · exact ⟨x, HDx.out, y, HDy.out, List.mem_singleton.1 hf⟩
                case measure => simp [intOf]; omega
        · go_simp
          refine hK.out _ _ ?_ (fun hHeld => ?_)
          · trivial
          clear hK K
          (try simp only [Act.put, List.setIfInBounds_toArray, List.set_cons_zero, List.set_cons_succ])
          obtain ⟨W2, hW2⟩ : ∃ W : World, W = W1.alloc (.cells #[.string ⟨#[]⟩, .string ⟨#[111, 110, 101]⟩, .string ⟨#[97, 58, 32, 98]⟩, .string ⟨#[116, 119, 111, 32, 119, 111, 114, 100, 115]⟩] 9) := ⟨_, rfl⟩
          rw [← hW2]
          have hb2 : Below W1.heap.size W1 W2 := by rw [hW2]; exact (Below.refl _ _).alloc (Nat.le_refl _) _
          have hq2 : W1.heap.size < W2.heap.size := by rw [hW2]; simp
          have HM2 := Lib.hid (HM1.out.old hb2)
          have HX6 : Hid (∀ j, (hj : j < drawnValues.length) → W2.cell? ⟨W1.heap.size, j, none⟩ = some (sv drawnValues[j])) := by
            rw [hW2]
            intro j hj
            have hj2 : j < 4 := hj
            match j, hj2 with
            | 0, _ => simp [go_sem]; rfl
            | 1, _ => simp [go_sem]; rfl
            | 2, _ => simp [go_sem]; rfl
            | 3, _ => simp [go_sem]; rfl
          have HX3 := Lib.hid (fun j hj => (World.cell?_of_block (hb2.block W0.heap.size (by omega))).trans (HX3.out j hj))
          clear hW2 hb2
          refine wpAnyH_ready (rs := [1, 4]) (by kernel_rfl) (by simp) ?_
          refine (AllReadyH.cons (o := ⟨some 17, _, _, _, _, _⟩) rfl (fun K hK => ?_) (AllReadyH.cons (o := ⟨some 20, _, _, _, _, _⟩) rfl (fun K hK => ?_) AllReadyH.nil))
          · have c2 := HM2.out.cells.2.2.1
            go_simp
            clear c2
            refine hK.out _ _ ?_ (fun hHeld => ?_)
            · trivial
            clear hK K
            (try simp only [Act.put, List.setIfInBounds_toArray, List.set_cons_zero, List.set_cons_succ])
            refine wpAnyH_ready (rs := [4]) (by kernel_rfl) (by simp) ?_
            refine (AllReadyH.cons (o := ⟨some 20, _, _, _, _, _⟩) rfl (fun K hK => ?_) AllReadyH.nil)
            have hlo := HM2.out.lo
            go_simp
            refine (HPN.out W2 _ W0.heap.size HM2.out.src (by omega) (by omega) (by omega) HX3.out).mono ?_
            rintro e W3 ⟨x, hx, rfl, hs, hg⟩
            have hq3 := hg.size
            have HM3 := Lib.hid (HM2.out.next hs hg)
            have HDx := Lib.hid hx
            have HX6 := Lib.hid (fun j hj => (World.cell?_of_block (hg.block W1.heap.size (by omega) (fun e => by injection e; omega))).trans (HX6.out j hj))
            clear hx hs hg hlo
            go_wp2_with fail
            refine hK.out _ _ ?_ (fun hHeld => ?_)
            · trivial
            clear hK K
            (try simp only [Act.put, List.setIfInBounds_toArray, List.set_cons_zero, List.set_cons_succ])
            refine wpAnyH_ready (rs := [7]) (by kernel_rfl) (by simp) ?_
            refine (AllReadyH.cons (o := ⟨some 23, _, _, _, _, _⟩) rfl (fun K hK => ?_) AllReadyH.nil)
            have hlo := HM3.out.lo
            go_simp
            refine (HPV.out W3 _ W1.heap.size HM3.out.src (by omega) (by omega) (by omega) HX6.out).mono ?_
            rintro e W4 ⟨y, hx, rfl, hs, hg⟩
            have hq4 := hg.size
            have HM4 := Lib.hid (HM3.out.next hs hg)
            have HDy := Lib.hid hx
            clear hx hs hg hlo
            go_wp2_with fail
            refine hK.out _ _ ?_ (fun hHeld => ?_)
            · trivial
            clear hK K
            (try simp only [Act.put, List.setIfInBounds_toArray, List.set_cons_zero, List.set_cons_succ])
            refine wpAnyH_take (i := 8) (oi := ⟨some 24, _, _, _, _, _⟩) (v := ?_) rfl (by kernel_rfl) (by kernel_rfl) (by kernel_rfl) (fun _ _ _ h => h) (Or.inl ⟨by simp [Region.wanted, yielded, undef], ?_⟩) (by assumption) ?_
            rotate_left
            · ((intro w hSw; (try dsimp only at hSw); go_simp) <;> with_reducible rfl)
            (try simp only [Act.put, List.setIfInBounds_toArray, List.set_cons_zero, List.set_cons_succ])
            refine wpAnyH_ready (rs := [9]) (by kernel_rfl) (by simp) ?_
            refine (AllReadyH.cons (o := ⟨some 25, _, _, _, _, _⟩) rfl (fun K hK => ?_) AllReadyH.nil)
            go_simp
            refine hK.out _ _ ?_ (fun hHeld => ?_)
            · trivial
            clear hK K
            (try simp only [Act.put, List.setIfInBounds_toArray, List.set_cons_zero, List.set_cons_succ])
            obtain ⟨W5, hW5⟩ : ∃ W : World, W = W4.alloc (.cells #[.string (bs x), .string (bs y)] 49) := ⟨_, rfl⟩
            rw [← hW5]
            have HM5 : Hid (MD w W5 w2.heap.size g v fs (bs b) (m + 6 + 6 * (2 - k) + 3 + 3)) := by rw [hW5]; exact HM4.out.old ((Below.refl _ _).alloc (Nat.le_refl _) _)
            have HF : Hid (W5.heap[W4.heap.size]? = some (.cells #[.string (bs x), .string (bs y)] 49 (0, 0))) := by rw [hW5]; exact heap_alloc_new _ _
            have hq5 : W4.heap.size < W5.heap.size := by rw [hW5]; simp
            clear hW5
            refine wpAnyH_ready (rs := [10]) (by kernel_rfl) (by simp) ?_
            refine (AllReadyH.cons (o := ⟨some 26, _, _, _, _, _⟩) rfl (fun K hK => ?_) AllReadyH.nil)
            have hzl := HM5.out.lt
            refine step_push_one elField rfl _ _ rfl (w.heap.size + 1) v fs.length (flat encP fs) rfl HM5.out.own W4.heap.size [.string (bs x), .string (bs y)] HF.out rfl rfl (by simp [Value.oneCell']) (by simp only [maxLen]; omega) (by omega) (by omega) ?_
            intro v6 w6 hp6
            obtain ⟨A6, c6, rfl, _⟩ := own_form hp6.1
            have HM6 := Lib.hid (HM5.out.push (f := (bs x, bs y)) hp6 rfl)
            obtain ⟨s0, s1⟩ := MD.pushedCells HM5.out hp6
            clear hp6 hzl
            refine hK.out _ _ ?_ (fun hHeld => ?_)
            · trivial
            clear hK K
            (try simp only [Act.put, List.setIfInBounds_toArray, List.set_cons_zero, List.set_cons_succ])
            refine wpAnyH_take (i := 11) (oi := ⟨some 27, _, _, _, _, _⟩) (v := ?_) rfl (by kernel_rfl) (by kernel_rfl) (by kernel_rfl) (fun _ _ _ h => h) (Or.inl ⟨by simp [Region.wanted, yielded, undef], ?_⟩) (by assumption) ?_
            rotate_left
            · ((intro w hSw; (try dsimp only at hSw); go_simp) <;> with_reducible rfl)
            (try simp only [Act.put, List.setIfInBounds_toArray, List.set_cons_zero, List.set_cons_succ])
            refine wpAnyH_ready (rs := [12]) (by kernel_rfl) (by simp) ?_
            refine (AllReadyH.cons rfl (fun K hK => ?_) AllReadyH.nil)
            go_simp
            refine hK.out _ _ ?_ (fun hHeld => ?_)
            · trivial
            clear hK K
            (try simp only [Act.put, List.setIfInBounds_toArray, List.set_cons_zero, List.set_cons_succ])
            refine wpAnyH_done (by kernel_rfl) ?_ _
            refine NoPanic.normal ?_
            go_wp2_with fail
            go_roundw
            case rel =>
              refine ⟨k - 1, fs ++ [(bs x, bs y)], _, by omega, by simp; omega, by go_num, ?_, ⟨HM6.out.res, HM6.out.box, HM6.out.own, HM6.out.src.more (by omega), HM6.out.grown, HM6.out.gt, HM6.out.lo⟩⟩
              intro f hf
              rw [List.mem_append] at hf
              rcases hf with hf | hf
              · exact HALL.out f hf
              · exact ⟨x, HDx.out, y, HDy.out, List.mem_singleton.1 hf⟩
            case measure => simp [intOf]; omega
          · have hlo := HM2.out.lo
            go_simp
            refine (HPN.out W2 _ W0.heap.size HM2.out.src (by omega) (by omega) (by omega) HX3.out).mono ?_
            rintro e W3 ⟨x, hx, rfl, hs, hg⟩
            have hq3 := hg.size
            have HM3 := Lib.hid (HM2.out.next hs hg)
            have HDx := Lib.hid hx
            have HX6 := Lib.hid (fun j hj => (World.cell?_of_block (hg.block W1.heap.size (by omega) (fun e => by injection e; omega))).trans (HX6.out j hj))
            clear hx hs hg hlo
            go_wp2_with fail
            refine hK.out _ _ ?_ (fun hHeld => ?_)
            · trivial
            clear hK K
            (try simp only [Act.put, List.setIfInBounds_toArray, List.set_cons_zero, List.set_cons_succ])
            refine wpAnyH_ready (rs := [1, 7]) (by kernel_rfl) (by simp) ?_
            refine (AllReadyH.cons (o := ⟨some 17, _, _, _, _, _⟩) rfl (fun K hK => ?_) (AllReadyH.cons (o := ⟨some 23, _, _, _, _, _⟩) rfl (fun K hK => ?_) AllReadyH.nil))
            · have c2 := HM3.out.cells.2.2.1
              go_simp
              clear c2
              refine hK.out _ _ ?_ (fun hHeld => ?_)
              · trivial
              clear hK K
              (try simp only [Act.put, List.setIfInBounds_toArray, List.set_cons_zero, List.set_cons_succ])
              refine wpAnyH_ready (rs := [7]) (by kernel_rfl) (by simp) ?_
              refine (AllReadyH.cons (o := ⟨some 23, _, _, _, _, _⟩) rfl (fun K hK => ?_) AllReadyH.nil)
              have hlo := HM3.out.lo
              go_simp
              refine (HPV.out W3 _ W1.heap.size HM3.out.src (by omega) (by omega) (by omega) HX6.out).mono ?_
              rintro e W4 ⟨y, hx, rfl, hs, hg⟩
              have hq4 := hg.size
              have HM4 := Lib.hid (HM3.out.next hs hg)
              have HDy := Lib.hid hx
              clear hx hs hg hlo
              go_wp2_with fail
              refine hK.out _ _ ?_ (fun hHeld => ?_)
              · trivial
              clear hK K
              (try simp only [Act.put, List.setIfInBounds_toArray, List.set_cons_zero, List.set_cons_succ])
              refine wpAnyH_take (i := 8) (oi := ⟨some 24, _, _, _, _, _⟩) (v := ?_) rfl (by kernel_rfl) (by kernel_rfl) (by kernel_rfl) (fun _ _ _ h => h) (Or.inl ⟨by simp [Region.wanted, yielded, undef], ?_⟩) (by assumption) ?_
              rotate_left
              · ((intro w hSw; (try dsimp only at hSw); go_simp) <;> with_reducible rfl)
              (try simp only [Act.put, List.setIfInBounds_toArray, List.set_cons_zero, List.set_cons_succ])
              refine wpAnyH_ready (rs := [9]) (by kernel_rfl) (by simp) ?_
              refine (AllReadyH.cons (o := ⟨some 25, _, _, _, _, _⟩) rfl (fun K hK => ?_) AllReadyH.nil)
              go_simp
              refine hK.out _ _ ?_ (fun hHeld => ?_)
              · trivial
              clear hK K
              (try simp only [Act.put, List.setIfInBounds_toArray, List.set_cons_zero, List.set_cons_succ])
              obtain ⟨W5, hW5⟩ : ∃ W : World, W = W4.alloc (.cells #[.string (bs x), .string (bs y)] 49) := ⟨_, rfl⟩
              rw [← hW5]
              have HM5 : Hid (MD w W5 w2.heap.size g v fs (bs b) (m + 6 + 6 * (2 - k) + 3 + 3)) := by rw [hW5]; exact HM4.out.old ((Below.refl _ _).alloc (Nat.le_refl _) _)
              have HF : Hid (W5.heap[W4.heap.size]? = some (.cells #[.string (bs x), .string (bs y)] 49 (0, 0))) := by rw [hW5]; exact heap_alloc_new _ _
              have hq5 : W4.heap.size < W5.heap.size := by rw [hW5]; simp
              clear hW5
              refine wpAnyH_ready (rs := [10]) (by kernel_rfl) (by simp) ?_
              refine (AllReadyH.cons (o := ⟨some 26, _, _, _, _, _⟩) rfl (fun K hK => ?_) AllReadyH.nil)
              have hzl := HM5.out.lt
              refine step_push_one elField rfl _ _ rfl (w.heap.size + 1) v fs.length (flat encP fs) rfl HM5.out.own W4.heap.size [.string (bs x), .string (bs y)] HF.out rfl rfl (by simp [Value.oneCell']) (by simp only [maxLen]; omega) (by omega) (by omega) ?_
              intro v6 w6 hp6
              obtain ⟨A6, c6, rfl, _⟩ := own_form hp6.1
              have HM6 := Lib.hid (HM5.out.push (f := (bs x, bs y)) hp6 rfl)
              obtain ⟨s0, s1⟩ := MD.pushedCells HM5.out hp6
              clear hp6 hzl
              refine hK.out _ _ ?_ (fun hHeld => ?_)
              · trivial
              clear hK K
              (try simp only [Act.put, List.setIfInBounds_toArray, List.set_cons_zero, List.set_cons_succ])
              refine wpAnyH_take (i := 11) (oi := ⟨some 27, _, _, _, _, _⟩) (v := ?_) rfl (by kernel_rfl) (by kernel_rfl) (by kernel_rfl) (fun _ _ _ h => h) (Or.inl ⟨by simp [Region.wanted, yielded, undef], ?_⟩) (by assumption) ?_
              rotate_left
              · ((intro w hSw; (try dsimp only at hSw); go_simp) <;> with_reducible rfl)
              (try simp only [Act.put, List.setIfInBounds_toArray, List.set_cons_zero, List.set_cons_succ])
              refine wpAnyH_ready (rs := [12]) (by kernel_rfl) (by simp) ?_
              refine (AllReadyH.cons rfl (fun K hK => ?_) AllReadyH.nil)
              go_simp
              refine hK.out _ _ ?_ (fun hHeld => ?_)
              · trivial
              clear hK K
              (try simp only [Act.put, List.setIfInBounds_toArray, List.set_cons_zero, List.set_cons_succ])
              refine wpAnyH_done (by kernel_rfl) ?_ _
              refine NoPanic.normal ?_
              go_wp2_with fail
              go_roundw
              case rel =>
                refine ⟨k - 1, fs ++ [(bs x, bs y)], _, by omega, by simp; omega, by go_num, ?_, ⟨HM6.out.res, HM6.out.box, HM6.out.own, HM6.out.src.more (by omega), HM6.out.grown, HM6.out.gt, HM6.out.lo⟩⟩
                intro f hf
                rw [List.mem_append] at hf
                rcases hf with hf | hf
                · exact HALL.out f hf
                · exact ⟨x, HDx.out, y, HDy.out, List.mem_singleton.1 hf⟩
              case measure => simp [intOf]; omega
            · have hlo := HM3.out.lo
              go_simp
              refine (HPV.out W3 _ W1.heap.size HM3.out.src (by omega) (by omega) (by omega) HX6.out).mono ?_
              rintro e W4 ⟨y, hx, rfl, hs, hg⟩
              have hq4 := hg.size
              have HM4 := Lib.hid (HM3.out.next hs hg)
              have HDy := Lib.hid hx
              clear hx hs hg hlo
              go_wp2_with fail
              refine hK.out _ _ ?_ (fun hHeld => ?_)
              · trivial
              clear hK K
              (try simp only [Act.put, List.setIfInBounds_toArray, List.set_cons_zero, List.set_cons_succ])
              refine wpAnyH_take (i := 8) (oi := ⟨some 24, _, _, _, _, _⟩) (v := ?_) rfl (by kernel_rfl) (by kernel_rfl) (by kernel_rfl) (fun _ _ _ h => h) (Or.inl ⟨by simp [Region.wanted, yielded, undef], ?_⟩) (by assumption) ?_
              rotate_left
              · ((intro w hSw; (try dsimp only at hSw); go_simp) <;> with_reducible rfl)
              (try simp only [Act.put, List.setIfInBounds_toArray, List.set_cons_zero, List.set_cons_succ])
              refine wpAnyH_ready (rs := [1, 9]) (by kernel_rfl) (by simp) ?_
              refine (AllReadyH.cons (o := ⟨some 17, _, _, _, _, _⟩) rfl (fun K hK => ?_) (AllReadyH.cons (o := ⟨some 25, _, _, _, _, _⟩) rfl (fun K hK => ?_) AllReadyH.nil))
              · have c2 := HM4.out.cells.2.2.1
                go_simp
                clear c2
                refine hK.out _ _ ?_ (fun hHeld => ?_)
                · trivial
                clear hK K
                (try simp only [Act.put, List.setIfInBounds_toArray, List.set_cons_zero, List.set_cons_succ])
                refine wpAnyH_ready (rs := [9]) (by kernel_rfl) (by simp) ?_
                refine (AllReadyH.cons (o := ⟨some 25, _, _, _, _, _⟩) rfl (fun K hK => ?_) AllReadyH.nil)
                go_simp
                refine hK.out _ _ ?_ (fun hHeld => ?_)
                · trivial
                clear hK K
                (try simp only [Act.put, List.setIfInBounds_toArray, List.set_cons_zero, List.set_cons_succ])
                obtain ⟨W5, hW5⟩ : ∃ W : World, W = W4.alloc (.cells #[.string (bs x), .string (bs y)] 49) := ⟨_, rfl⟩
                rw [← hW5]
                have HM5 : Hid (MD w W5 w2.heap.size g v fs (bs b) (m + 6 + 6 * (2 - k) + 3 + 3)) := by rw [hW5]; exact HM4.out.old ((Below.refl _ _).alloc (Nat.le_refl _) _)
                have HF : Hid (W5.heap[W4.heap.size]? = some (.cells #[.string (bs x), .string (bs y)] 49 (0, 0))) := by rw [hW5]; exact heap_alloc_new _ _
                have hq5 : W4.heap.size < W5.heap.size := by rw [hW5]; simp
                clear hW5
                refine wpAnyH_ready (rs := [10]) (by kernel_rfl) (by simp) ?_
                refine (AllReadyH.cons (o := ⟨some 26, _, _, _, _, _⟩) rfl (fun K hK => ?_) AllReadyH.nil)
                have hzl := HM5.out.lt
                refine step_push_one elField rfl _ _ rfl (w.heap.size + 1) v fs.length (flat encP fs) rfl HM5.out.own W4.heap.size [.string (bs x), .string (bs y)] HF.out rfl rfl (by simp [Value.oneCell']) (by simp only [maxLen]; omega) (by omega) (by omega) ?_
                intro v6 w6 hp6
                obtain ⟨A6, c6, rfl, _⟩ := own_form hp6.1
                have HM6 := Lib.hid (HM5.out.push (f := (bs x, bs y)) hp6 rfl)
                obtain ⟨s0, s1⟩ := MD.pushedCells HM5.out hp6
                clear hp6 hzl
                refine hK.out _ _ ?_ (fun hHeld => ?_)
                · trivial
                clear hK K
                (try simp only [Act.put, List.setIfInBounds_toArray, List.set_cons_zero, List.set_cons_succ])
                refine wpAnyH_take (i := 11) (oi := ⟨some 27, _, _, _, _, _⟩) (v := ?_) rfl (by kernel_rfl) (by kernel_rfl) (by kernel_rfl) (fun _ _ _ h => h) (Or.inl ⟨by simp [Region.wanted, yielded, undef], ?_⟩) (by assumption) ?_
                rotate_left
                · ((intro w hSw; (try dsimp only at hSw); go_simp) <;> with_reducible rfl)
                (try simp only [Act.put, List.setIfInBounds_toArray, List.set_cons_zero, List.set_cons_succ])
                refine wpAnyH_ready (rs := [12]) (by kernel_rfl) (by simp) ?_
                refine (AllReadyH.cons rfl (fun K hK => ?_) AllReadyH.nil)
                go_simp
                refine hK.out _ _ ?_ (fun hHeld => ?_)
                · trivial
                clear hK K
                (try simp only [Act.put, List.setIfInBounds_toArray, List.set_cons_zero, List.set_cons_succ])
                refine wpAnyH_done (by kernel_rfl) ?_ _
                refine NoPanic.normal ?_
                go_wp2_with fail
                go_roundw
                case rel =>
                  refine ⟨k - 1, fs ++ [(bs x, bs y)], _, by omega, by simp; omega, by go_num, ?_, ⟨HM6.out.res, HM6.out.box, HM6.out.own, HM6.out.src.more (by omega), HM6.out.grown, HM6.out.gt, HM6.out.lo⟩⟩
                  intro f hf
                  rw [List.mem_append] at hf
                  rcases hf with hf | hf
                  · exact HALL.out f hf
                  · exact ⟨x, HDx.out, y, HDy.out, List.mem_singleton.1 hf⟩
                case measure => simp [intOf]; omega
              · go_simp
                refine hK.out _ _ ?_ (fun hHeld => ?_)
                · trivial
                clear hK K
                (try simp only [Act.put, List.setIfInBounds_toArray, List.set_cons_zero, List.set_cons_succ])
                obtain ⟨W5, hW5⟩ : ∃ W : World, W = W4.alloc (.cells #[.string (bs x), .string (bs y)] 49) := ⟨_, rfl⟩
                rw [← hW5]
                have HM5 : Hid (MD w W5 w2.heap.size g v fs (bs b) (m + 6 + 6 * (2 - k) + 3 + 3)) := by rw [hW5]; exact HM4.out.old ((Below.refl _ _).alloc (Nat.le_refl _) _)
                have HF : Hid (W5.heap[W4.heap.size]? = some (.cells #[.string (bs x), .string (bs y)] 49 (0, 0))) := by rw [hW5]; exact heap_alloc_new _ _
                have hq5 : W4.heap.size < W5.heap.size := by rw [hW5]; simp
                clear hW5
                refine wpAnyH_ready (rs := [1]) (by kernel_rfl) (by simp) ?_
                refine (AllReadyH.cons (o := ⟨some 17, _, _, _, _, _⟩) rfl (fun K hK => ?_) AllReadyH.nil)
                have c2 := HM5.out.cells.2.2.1
                go_simp
                clear c2
                refine hK.out _ _ ?_ (fun hHeld => ?_)
                · trivial
                clear hK K
                (try simp only [Act.put, List.setIfInBounds_toArray, List.set_cons_zero, List.set_cons_succ])
                refine wpAnyH_ready (rs := [10]) (by kernel_rfl) (by simp) ?_
                refine (AllReadyH.cons (o := ⟨some 26, _, _, _, _, _⟩) rfl (fun K hK => ?_) AllReadyH.nil)
                have hzl := HM5.out.lt
                refine step_push_one elField rfl _ _ rfl (w.heap.size + 1) v fs.length (flat encP fs) rfl HM5.out.own W4.heap.size [.string (bs x), .string (bs y)] HF.out rfl rfl (by simp [Value.oneCell']) (by simp only [maxLen]; omega) (by omega) (by omega) ?_
                intro v6 w6 hp6
                obtain ⟨A6, c6, rfl, _⟩ := own_form hp6.1
                have HM6 := Lib.hid (HM5.out.push (f := (bs x, bs y)) hp6 rfl)
                obtain ⟨s0, s1⟩ := MD.pushedCells HM5.out hp6
                clear hp6 hzl
                refine hK.out _ _ ?_ (fun hHeld => ?_)
                · trivial
                clear hK K
                (try simp only [Act.put, List.setIfInBounds_toArray, List.set_cons_zero, List.set_cons_succ])
                refine wpAnyH_take (i := 11) (oi := ⟨some 27, _, _, _, _, _⟩) (v := ?_) rfl (by kernel_rfl) (by kernel_rfl) (by kernel_rfl) (fun _ _ _ h => h) (Or.inl ⟨by simp [Region.wanted, yielded, undef], ?_⟩) (by assumption) ?_
                rotate_left
                · ((intro w hSw; (try dsimp only at hSw); go_simp) <;> with_reducible rfl)
                (try simp only [Act.put, List.setIfInBounds_toArray, List.set_cons_zero, List.set_cons_succ])
                refine wpAnyH_ready (rs := [12]) (by kernel_rfl) (by simp) ?_
                refine (AllReadyH.cons rfl (fun K hK => ?_) AllReadyH.nil)
                go_simp
                refine hK.out _ _ ?_ (fun hHeld => ?_)
                · trivial
                clear hK K
                (try simp only [Act.put, List.setIfInBounds_toArray, List.set_cons_zero, List.set_cons_succ])
                refine wpAnyH_done (by kernel_rfl) ?_ _
                refine NoPanic.normal ?_
                go_wp2_with fail
                go_roundw
                case rel =>
                  refine ⟨k - 1, fs ++ [(bs x, bs y)], _, by omega, by simp; omega, by go_num, ?_, ⟨HM6.out.res, HM6.out.box, HM6.out.own, HM6.out.src.more (by omega), HM6.out.grown, HM6.out.gt, HM6.out.lo⟩⟩
                  intro f hf
                  rw [List.mem_append] at hf
                  rcases hf with hf | hf
                  · exact HALL.out f hf
                  · exact ⟨x, HDx.out, y, HDy.out, List.mem_singleton.1 hf⟩
                case measure => simp [intOf]; omega
      · go_simp
        refine hK.out _ _ ?_ (fun hHeld => ?_)
        · trivial
        clear hK K
        (try simp only [Act.put, List.setIfInBounds_toArray, List.set_cons_zero, List.set_cons_succ])
        obtain ⟨W1, hW1⟩ : ∃ W : World, W = W0.alloc (.cells #[.string ⟨#[]⟩, .string ⟨#[111, 110, 101]⟩, .string ⟨#[97, 58, 32, 98]⟩, .string ⟨#[116, 119, 111, 32, 119, 111, 114, 100, 115]⟩] 9) := ⟨_, rfl⟩
        rw [← hW1]
        have hb1 : Below W0.heap.size W0 W1 := by rw [hW1]; exact (Below.refl _ _).alloc (Nat.le_refl _) _
        have hq1 : W0.heap.size < W1.heap.size := by rw [hW1]; simp
        have HM1 := Lib.hid (HM0.out.old hb1)
        have HX6 : Hid (∀ j, (hj : j < drawnValues.length) → W1.cell? ⟨W0.heap.size, j, none⟩ = some (sv drawnValues[j])) := by
          rw [hW1]
          intro j hj
          have hj2 : j < 4 := hj
          match j, hj2 with
          | 0, _ => simp [go_sem]; rfl
          | 1, _ => simp [go_sem]; rfl
          | 2, _ => simp [go_sem]; rfl
          | 3, _ => simp [go_sem]; rfl
        clear hW1 hb1
        refine wpAnyH_ready (rs := [1, 3]) (by kernel_rfl) (by simp) ?_
        refine (AllReadyH.cons (o := ⟨some 17, _, _, _, _, _⟩) rfl (fun K hK => ?_) (AllReadyH.cons (o := ⟨some 19, _, _, _, _, _⟩) rfl (fun K hK => ?_) AllReadyH.nil))
        · have c2 := HM1.out.cells.2.2.1
          go_simp
          clear c2
          refine hK.out _ _ ?_ (fun hHeld => ?_)
          · trivial
          clear hK K
          (try simp only [Act.put, List.setIfInBounds_toArray, List.set_cons_zero, List.set_cons_succ])
          refine wpAnyH_ready (rs := [3]) (by kernel_rfl) (by simp) ?_
          refine (AllReadyH.cons (o := ⟨some 19, _, _, _, _, _⟩) rfl (fun K hK => ?_) AllReadyH.nil)
          go_simp
          refine hK.out _ _ ?_ (fun hHeld => ?_)
          · trivial
          clear hK K
          (try simp only [Act.put, List.setIfInBounds_toArray, List.set_cons_zero, List.set_cons_succ])
          obtain ⟨W2, hW2⟩ : ∃ W : World, W = W1.alloc (.cells #[.string ⟨#[83, 117, 98, 106, 101, 99, 116]⟩, .string ⟨#[70, 114, 111, 109]⟩, .string ⟨#[88, 45, 89]⟩, .string ⟨#[115, 117, 98, 106, 101, 99, 116]⟩] 9) := ⟨_, rfl⟩
          rw [← hW2]
          have hb2 : Below W1.heap.size W1 W2 := by rw [hW2]; exact (Below.refl _ _).alloc (Nat.le_refl _) _
          have hq2 : W1.heap.size < W2.heap.size := by rw [hW2]; simp
          have HM2 := Lib.hid (HM1.out.old hb2)
          have HX3 : Hid (∀ j, (hj : j < drawnNames.length) → W2.cell? ⟨W1.heap.size, j, none⟩ = some (sv drawnNames[j])) := by
            rw [hW2]
            intro j hj
            have hj2 : j < 4 := hj
            match j, hj2 with
            | 0, _ => simp [go_sem]; rfl
            | 1, _ => simp [go_sem]; rfl
            | 2, _ => simp [go_sem]; rfl
            | 3, _ => simp [go_sem]; rfl
          have HX6 := Lib.hid (fun j hj => (World.cell?_of_block (hb2.block W0.heap.size (by omega))).trans (HX6.out j hj))
          clear hW2 hb2
          refine wpAnyH_ready (rs := [4]) (by kernel_rfl) (by simp) ?_
          refine (AllReadyH.cons (o := ⟨some 20, _, _, _, _, _⟩) rfl (fun K hK => ?_) AllReadyH.nil)
          have hlo := HM2.out.lo
          go_simp
          refine (HPN.out W2 _ W1.heap.size HM2.out.src (by omega) (by omega) (by omega) HX3.out).mono ?_
          rintro e W3 ⟨x, hx, rfl, hs, hg⟩
          have hq3 := hg.size
          have HM3 := Lib.hid (HM2.out.next hs hg)
          have HDx := Lib.hid hx
          have HX6 := Lib.hid (fun j hj => (World.cell?_of_block (hg.block W0.heap.size (by omega) (fun e => by injection e; omega))).trans (HX6.out j hj))
          clear hx hs hg hlo
          go_wp2_with fail
          refine hK.out _ _ ?_ (fun hHeld => ?_)
          · trivial
          clear hK K
          (try simp only [Act.put, List.setIfInBounds_toArray, List.set_cons_zero, List.set_cons_succ])
          refine wpAnyH_ready (rs := [7]) (by kernel_rfl) (by simp) ?_
          refine (AllReadyH.cons (o := ⟨some 23, _, _, _, _, _⟩) rfl (fun K hK => ?_) AllReadyH.nil)
          have hlo := HM3.out.lo
          go_simp
          refine (HPV.out W3 _ W0.heap.size HM3.out.src (by omega) (by omega) (by omega) HX6.out).mono ?_
          rintro e W4 ⟨y, hx, rfl, hs, hg⟩
          have hq4 := hg.size
          have HM4 := Lib.hid (HM3.out.next hs hg)
          have HDy := Lib.hid hx
          clear hx hs hg hlo
          go_wp2_with fail
          refine hK.out _ _ ?_ (fun hHeld => ?_)
          · trivial
          clear hK K
          (try simp only [Act.put, List.setIfInBounds_toArray, List.set_cons_zero, List.set_cons_succ])
          refine wpAnyH_take (i := 8) (oi := ⟨some 24, _, _, _, _, _⟩) (v := ?_) rfl (by kernel_rfl) (by kernel_rfl) (by kernel_rfl) (fun _ _ _ h => h) (Or.inl ⟨by simp [Region.wanted, yielded, undef], ?_⟩) (by assumption) ?_
          rotate_left
          · ((intro w hSw; (try dsimp only at hSw); go_simp) <;> with_reducible rfl)
          (try simp only [Act.put, List.setIfInBounds_toArray, List.set_cons_zero, List.set_cons_succ])
          refine wpAnyH_ready (rs := [9]) (by kernel_rfl) (by simp) ?_
          refine (AllReadyH.cons (o := ⟨some 25, _, _, _, _, _⟩) rfl (fun K hK => ?_) AllReadyH.nil)
          go_simp
          refine hK.out _ _ ?_ (fun hHeld => ?_)
          · trivial
          clear hK K
          (try simp only [Act.put, List.setIfInBounds_toArray, List.set_cons_zero, List.set_cons_succ])
          obtain ⟨W5, hW5⟩ : ∃ W : World, W = W4.alloc (.cells #[.string (bs x), .string (bs y)] 49) := ⟨_, rfl⟩
          rw [← hW5]
          have HM5 : Hid (MD w W5 w2.heap.size g v fs (bs b) (m + 6 + 6 * (2 - k) + 3 + 3)) := by rw [hW5]; exact HM4.out.old ((Below.refl _ _).alloc (Nat.le_refl _) _)
          have HF : Hid (W5.heap[W4.heap.size]? = some (.cells #[.string (bs x), .string (bs y)] 49 (0, 0))) := by rw [hW5]; exact heap_alloc_new _ _
          have hq5 : W4.heap.size < W5.heap.size := by rw [hW5]; simp
          clear hW5
          refine wpAnyH_ready (rs := [10]) (by kernel_rfl) (by simp) ?_
          refine (AllReadyH.cons (o := ⟨some 26, _, _, _, _, _⟩) rfl (fun K hK => ?_) AllReadyH.nil)
          have hzl := HM5.out.lt
          refine step_push_one elField rfl _ _ rfl (w.heap.size + 1) v fs.length (flat encP fs) rfl HM5.out.own W4.heap.size [.string (bs x), .string (bs y)] HF.out rfl rfl (by simp [Value.oneCell']) (by simp only [maxLen]; omega) (by omega) (by omega) ?_
          intro v6 w6 hp6
          obtain ⟨A6, c6, rfl, _⟩ := own_form hp6.1
          have HM6 := Lib.hid (HM5.out.push (f := (bs x, bs y)) hp6 rfl)
          obtain ⟨s0, s1⟩ := MD.pushedCells HM5.out hp6
          clear hp6 hzl
          refine hK.out _ _ ?_ (fun hHeld => ?_)
          · trivial
          clear hK K
          (try simp only [Act.put, List.setIfInBounds_toArray, List.set_cons_zero, List.set_cons_succ])
          refine wpAnyH_take (i := 11) (oi := ⟨some 27, _, _, _, _, _⟩) (v := ?_) rfl (by kernel_rfl) (by kernel_rfl) (by kernel_rfl) (fun _ _ _ h => h) (Or.inl ⟨by simp [Region.wanted, yielded, undef], ?_⟩) (by assumption) ?_
          rotate_left
          · ((intro w hSw; (try dsimp only at hSw); go_simp) <;> with_reducible rfl)
          (try simp only [Act.put, List.setIfInBounds_toArray, List.set_cons_zero, List.set_cons_succ])
          refine wpAnyH_ready (rs := [12]) (by kernel_rfl) (by simp) ?_
          refine (AllReadyH.cons rfl (fun K hK => ?_) AllReadyH.nil)
          go_simp
          refine hK.out _ _ ?_ (fun hHeld => ?_)
          · trivial
          clear hK K
          (try simp only [Act.put, List.setIfInBounds_toArray, List.set_cons_zero, List.set_cons_succ])
          refine wpAnyH_done (by kernel_rfl) ?_ _
          refine NoPanic.normal ?_
          go_wp2_with fail
          go_roundw
          case rel =>
            refine ⟨k - 1, fs ++ [(bs x, bs y)], _, by omega, by simp; omega, by go_num, ?_, ⟨HM6.out.res, HM6.out.box, HM6.out.own, HM6.out.src.more (by omega), HM6.out.grown, HM6.out.gt, HM6.out.lo⟩⟩
            intro f hf
            rw [List.mem_append] at hf
            rcases hf with hf | hf
            · exact HALL.out f hf
            · exact ⟨x, HDx.out, y, HDy.out, List.mem_singleton.1 hf⟩
          case measure => simp [intOf]; omega
        · go_simp
          refine hK.out _ _ ?_ (fun hHeld => ?_)
          · trivial
          clear hK K
          (try simp only [Act.put, List.setIfInBounds_toArray, List.set_cons_zero, List.set_cons_succ])
          obtain ⟨W2, hW2⟩ : ∃ W : World, W = W1.alloc (.cells #[.string ⟨#[83, 117, 98, 106, 101, 99, 116]⟩, .string ⟨#[70, 114, 111, 109]⟩, .string ⟨#[88, 45, 89]⟩, .string ⟨#[115, 117, 98, 106, 101, 99, 116]⟩] 9) := ⟨_, rfl⟩
          rw [← hW2]
          have hb2 : Below W1.heap.size W1 W2 := by rw [hW2]; exact (Below.refl _ _).alloc (Nat.le_refl _) _
          have hq2 : W1.heap.size < W2.heap.size := by rw [hW2]; simp
          have HM2 := Lib.hid (HM1.out.old hb2)
          have HX3 : Hid (∀ j, (hj : j < drawnNames.length) → W2.cell? ⟨W1.heap.size, j, none⟩ = some (sv drawnNames[j])) := by
            rw [hW2]
            intro j hj
            have hj2 : j < 4 := hj
            match j, hj2 with
            | 0, _ => simp [go_sem]; rfl
            | 1, _ => simp [go_sem]; rfl
            | 2, _ => simp [go_sem]; rfl
            | 3, _ => simp [go_sem]; rfl
          have HX6 := Lib.hid (fun j hj => (World.cell?_of_block (hb2.block W0.heap.size (by omega))).trans (HX6.out j hj))
          clear hW2 hb2
          refine wpAnyH_ready (rs := [1, 4]) (by kernel_rfl) (by simp) ?_
          refine (AllReadyH.cons (o := ⟨some 17, _, _, _, _, _⟩) rfl (fun K hK => ?_) (AllReadyH.cons (o := ⟨some 20, _, _, _, _, _⟩) rfl (fun K hK => ?_) AllReadyH.nil))
          · have c2 := HM2.out.cells.2.2.1
            go_simp
            clear c2
            refine hK.out _ _ ?_ (fun hHeld => ?_)
            · trivial
            clear hK K
            (try simp only [Act.put, List.setIfInBounds_toArray, List.set_cons_zero, List.set_cons_succ])
            refine wpAnyH_ready (rs := [4]) (by kernel_rfl) (by simp) ?_
            refine (AllReadyH.cons (o := ⟨some 20, _, _, _, _, _⟩) rfl (fun K hK => ?_) AllReadyH.nil)
            have hlo := HM2.out.lo
            go_simp
            refine (HPN.out W2 _ W1.heap.size HM2.out.src (by omega) (by omega) (by omega) HX3.out).mono ?_
            rintro e W3 ⟨x, hx, rfl, hs, hg⟩
            have hq3 := hg.size
            have HM3 := Lib.hid (HM2.out.next hs hg)
            have HDx := Lib.hid hx
            have HX6 := Lib.hid (fun j hj => (World.cell?_of_block (hg.block W0.heap.size (by omega) (fun e => by injection e; omega))).trans (HX6.out j hj))
            clear hx hs hg hlo
            go_wp2_with fail
            refine hK.out _ _ ?_ (fun hHeld => ?_)
            · trivial
            clear hK K
            (try simp only [Act.put, List.setIfInBounds_toArray, List.set_cons_zero, List.set_cons_succ])
            refine wpAnyH_ready (rs := [7]) (by kernel_rfl) (by simp) ?_
            refine (AllReadyH.cons (o := ⟨some 23, _, _, _, _, _⟩) rfl (fun K hK => ?_) AllReadyH.nil)
            have hlo := HM3.out.lo
            go_simp
            refine (HPV.out W3 _ W0.heap.size HM3.out.src (by omega) (by omega) (by omega) HX6.out).mono ?_
            rintro e W4 ⟨y, hx, rfl, hs, hg⟩
            have hq4 := hg.size
            have HM4 := Lib.hid (HM3.out.next hs hg)
            have HDy := Lib.hid hx
            clear hx hs hg hlo
            go_wp2_with fail
            refine hK.out _ _ ?_ (fun hHeld => ?_)
            · trivial
            clear hK K
            (try simp only [Act.put, List.setIfInBounds_toArray, List.set_cons_zero, List.set_cons_succ])
            refine wpAnyH_take (i := 8) (oi := ⟨some 24, _, _, _, _, _⟩) (v := ?_) rfl (by kernel_rfl) (by kernel_rfl) (by kernel_rfl) (fun _ _ _ h => h) (Or.inl ⟨by simp [Region.wanted, yielded, undef], ?_⟩) (by assumption) ?_
            rotate_left
            · ((intro w hSw; (try dsimp only at hSw); go_simp) <;> with_reducible rfl)
            (try simp only [Act.put, List.setIfInBounds_toArray, List.set_cons_zero, List.set_cons_succ])
            refine wpAnyH_ready (rs := [9]) (by kernel_rfl) (by simp) ?_
            refine (AllReadyH.cons (o := ⟨some 25, _, _, _, _, _⟩) rfl (fun K hK => ?_) AllReadyH.nil)
            go_simp
            refine hK.out _ _ ?_ (fun hHeld => ?_)
            · trivial
            clear hK K
            (try simp only [Act.put, List.setIfInBounds_toArray, List.set_cons_zero, List.set_cons_succ])
            obtain ⟨W5, hW5⟩ : ∃ W : World, W = W4.alloc (.cells #[.string (bs x), .string (bs y)] 49) := ⟨_, rfl⟩
            rw [← hW5]
            have HM5 : Hid (MD w W5 w2.heap.size g v fs (bs b) (m + 6 + 6 * (2 - k) + 3 + 3)) := by rw [hW5]; exact HM4.out.old ((Below.refl _ _).alloc (Nat.le_refl _) _)
            have HF : Hid (W5.heap[W4.heap.size]? = some (.cells #[.string (bs x), .string (bs y)] 49 (0, 0))) := by rw [hW5]; exact heap_alloc_new _ _
            have hq5 : W4.heap.size < W5.heap.size := by rw [hW5]; simp
            clear hW5
            refine wpAnyH_ready (rs := [10]) (by kernel_rfl) (by simp) ?_
            refine (AllReadyH.cons (o := ⟨some 26, _, _, _, _, _⟩) rfl (fun K hK => ?_) AllReadyH.nil)
            have hzl := HM5.out.lt
            refine step_push_one elField rfl _ _ rfl (w.heap.size + 1) v fs.length (flat encP fs) rfl HM5.out.own W4.heap.size [.string (bs x), .string (bs y)] HF.out rfl rfl (by simp [Value.oneCell']) (by simp only [maxLen]; omega) (by omega) (by omega) ?_
            intro v6 w6 hp6
            obtain ⟨A6, c6, rfl, _⟩ := own_form hp6.1
            have HM6 := Lib.hid (HM5.out.push (f := (bs x, bs y)) hp6 rfl)
            obtain ⟨s0, s1⟩ := MD.pushedCells HM5.out hp6
            clear hp6 hzl
            refine hK.out _ _ ?_ (fun hHeld => ?_)
            · trivial
            clear hK K
            (try simp only [Act.put, List.setIfInBounds_toArray, List.set_cons_zero, List.set_cons_succ])
            refine wpAnyH_take (i := 11) (oi := ⟨some 27, _, _, _, _, _⟩) (v := ?_) rfl (by kernel_rfl) (by kernel_rfl) (by kernel_rfl) (fun _ _ _ h => h) (Or.inl ⟨by simp [Region.wanted, yielded, undef], ?_⟩) (by assumption) ?_
            rotate_left
            · ((intro w hSw; (try dsimp only at hSw); go_simp) <;> with_reducible rfl)
            (try simp only [Act.put, List.setIfInBounds_toArray, List.set_cons_zero, List.set_cons_succ])
            refine wpAnyH_ready (rs := [12]) (by kernel_rfl) (by simp) ?_
            refine (AllReadyH.cons rfl (fun K hK => ?_) AllReadyH.nil)
            go_simp
            refine hK.out _ _ ?_ (fun hHeld => ?_)
            · trivial
            clear hK K
            (try simp only [Act.put, List.setIfInBounds_toArray, List.set_cons_zero, List.set_cons_succ])
            refine wpAnyH_done (by kernel_rfl) ?_ _
            refine NoPanic.normal ?_
            go_wp2_with fail
            go_roundw
            case rel =>
              refine ⟨k - 1, fs ++ [(bs x, bs y)], _, by omega, by simp; omega, by go_num, ?_, ⟨HM6.out.res, HM6.out.box, HM6.out.own, HM6.out.src.more (by omega), HM6.out.grown, HM6.out.gt, HM6.out.lo⟩⟩
              intro f hf
              rw [List.mem_append] at hf
              rcases hf with hf | hf
              · exact HALL.out f hf
              · exact ⟨x, HDx.out, y, HDy.out, List.mem_singleton.1 hf⟩
            case measure => simp [intOf]; omega
          · have hlo := HM2.out.lo
            go_simp
            refine (HPN.out W2 _ W1.heap.size HM2.out.src (by omega) (by omega) (by omega) HX3.out).mono ?_
            rintro e W3 ⟨x, hx, rfl, hs, hg⟩
            have hq3 := hg.size
            have HM3 := Lib.hid (HM2.out.next hs hg)
            have HDx := Lib.hid hx
            have HX6 := Lib.hid (fun j hj => (World.cell?_of_block (hg.block W0.heap.size (by omega) (fun e => by injection e; omega))).trans (HX6.out j hj))
            clear hx hs hg hlo
            go_wp2_with fail
            refine hK.out _ _ ?_ (fun hHeld => ?_)
            · trivial
            clear hK K
            (try simp only [Act.put, List.setIfInBounds_toArray, List.set_cons_zero, List.set_cons_succ])
            refine wpAnyH_ready (rs := [1, 7]) (by kernel_rfl) (by simp) ?_
            refine (AllReadyH.cons (o := ⟨some 17, _, _, _, _, _⟩) rfl (fun K hK => ?_) (AllReadyH.cons (o := ⟨some 23, _, _, _, _, _⟩) rfl (fun K hK => ?_) AllReadyH.nil))
            · have c2 := HM3.out.cells.2.2.1
              go_simp
              clear c2
              refine hK.out _ _ ?_ (fun hHeld => ?_)
              · trivial
              clear hK K
              (try simp only [Act.put, List.setIfInBounds_toArray, List.set_cons_zero, List.set_cons_succ])
              refine wpAnyH_ready (rs := [7]) (by kernel_rfl) (by simp) ?_
              refine (AllReadyH.cons (o := ⟨some 23, _, _, _, _, _⟩) rfl (fun K hK => ?_) AllReadyH.nil)
              have hlo := HM3.out.lo
              go_simp
              refine (HPV.out W3 _ W0.heap.size HM3.out.src (by omega) (by omega) (by omega) HX6.out).mono ?_
              rintro e W4 ⟨y, hx, rfl, hs, hg⟩
              have hq4 := hg.size
              have HM4 := Lib.hid (HM3.out.next hs hg)
              have HDy := Lib.hid hx
              clear hx hs hg hlo
              go_wp2_with fail
              refine hK.out _ _ ?_ (fun hHeld => ?_)
              · trivial
              clear hK K
              (try simp only [Act.put, List.setIfInBounds_toArray, List.set_cons_zero, List.set_cons_succ])
              refine wpAnyH_take (i := 8) (oi := ⟨some 24, _, _, _, _, _⟩) (v := ?_) rfl (by kernel_rfl) (by kernel_rfl) (by kernel_rfl) (fun _ _ _ h => h) (Or.inl ⟨by simp [Region.wanted, yielded, undef], ?_⟩) (by assumption) ?_
              rotate_left
              · ((intro w hSw; (try dsimp only at hSw); go_simp) <;> with_reducible rfl)
              (try simp only [Act.put, List.setIfInBounds_toArray, List.set_cons_zero, List.set_cons_succ])
              refine wpAnyH_ready (rs := [9]) (by kernel_rfl) (by simp) ?_
              refine (AllReadyH.cons (o := ⟨some 25, _, _, _, _, _⟩) rfl (fun K hK => ?_) AllReadyH.nil)
              go_simp
              refine hK.out _ _ ?_ (fun hHeld => ?_)
              · trivial
              clear hK K
              (try simp only [Act.put, List.setIfInBounds_toArray, List.set_cons_zero, List.set_cons_succ])
              obtain ⟨W5, hW5⟩ : ∃ W : World, W = W4.alloc (.cells #[.string (bs x), .string (bs y)] 49) := ⟨_, rfl⟩
              rw [← hW5]
              have HM5 : Hid (MD w W5 w2.heap.size g v fs (bs b) (m + 6 + 6 * (2 - k) + 3 + 3)) := by rw [hW5]; exact HM4.out.old ((Below.refl _ _).alloc (Nat.le_refl _) _)
              have HF : Hid (W5.heap[W4.heap.size]? = some (.cells #[.string (bs x), .string (bs y)] 49 (0, 0))) := by rw [hW5]; exact heap_alloc_new _ _
              have hq5 : W4.heap.size < W5.heap.size := by rw [hW5]; simp
              clear hW5
              refine wpAnyH_ready (rs := [10]) (by kernel_rfl) (by simp) ?_
              refine (AllReadyH.cons (o := ⟨some 26, _, _, _, _, _⟩) rfl (fun K hK => ?_) AllReadyH.nil)
              have hzl := HM5.out.lt
              refine step_push_one elField rfl _ _ rfl (w.heap.size + 1) v fs.length (flat encP fs) rfl HM5.out.own W4.heap.size [.string (bs x), .string (bs y)] HF.out rfl rfl (by simp [Value.oneCell']) (by simp only [maxLen]; omega) (by omega) (by omega) ?_
              intro v6 w6 hp6
              obtain ⟨A6, c6, rfl, _⟩ := own_form hp6.1
              have HM6 := Lib.hid (HM5.out.push (f := (bs x, bs y)) hp6 rfl)
              obtain ⟨s0, s1⟩ := MD.pushedCells HM5.out hp6
              clear hp6 hzl
              refine hK.out _ _ ?_ (fun hHeld => ?_)
              · trivial
              clear hK K
              (try simp only [Act.put, List.setIfInBounds_toArray, List.set_cons_zero, List.set_cons_succ])
              refine wpAnyH_take (i := 11) (oi := ⟨some 27, _, _, _, _, _⟩) (v := ?_) rfl (by kernel_rfl) (by kernel_rfl) (by kernel_rfl) (fun _ _ _ h => h) (Or.inl ⟨by simp [Region.wanted, yielded, undef], ?_⟩) (by assumption) ?_
              rotate_left
              · ((intro w hSw; (try dsimp only at hSw); go_simp) <;> with_reducible rfl)
              (try simp only [Act.put, List.setIfInBounds_toArray, List.set_cons_zero, List.set_cons_succ])
              refine wpAnyH_ready (rs := [12]) (by kernel_rfl) (by simp) ?_
              refine (AllReadyH.cons rfl (fun K hK => ?_) AllReadyH.nil)
              go_simp
              refine hK.out _ _ ?_ (fun hHeld => ?_)
              · trivial
              clear hK K
              (try simp only [Act.put, List.setIfInBounds_toArray, List.set_cons_zero, List.set_cons_succ])
              refine wpAnyH_done (by kernel_rfl) ?_ _
              refine NoPanic.normal ?_
              go_wp2_with fail
              go_roundw
              case rel =>
                refine ⟨k - 1, fs ++ [(bs x, bs y)], _, by omega, by simp; omega, by go_num, ?_, ⟨HM6.out.res, HM6.out.box, HM6.out.own, HM6.out.src.more (by omega), HM6.out.grown, HM6.out.gt, HM6.out.lo⟩⟩
                intro f hf
                rw [List.mem_append] at hf
                rcases hf with hf | hf
                · exact HALL.out f hf
                · exact ⟨x, HDx.out, y, HDy.out, List.mem_singleton.1 hf⟩
              case measure => simp [intOf]; omega
            · have hlo := HM3.out.lo
              go_simp
              refine (HPV.out W3 _ W0.heap.size HM3.out.src (by omega) (by omega) (by omega) HX6.out).mono ?_
              rintro e W4 ⟨y, hx, rfl, hs, hg⟩
              have hq4 := hg.size
              have HM4 := Lib.hid (HM3.out.next hs hg)
              have HDy := Lib.hid hx
              clear hx hs hg hlo
              go_wp2_with fail
              refine hK.out _ _ ?_ (fun hHeld => ?_)
              · trivial
              clear hK K
              (try simp only [Act.put, List.setIfInBounds_toArray, List.set_cons_zero, List.set_cons_succ])
              refine wpAnyH_take (i := 8) (oi := ⟨some 24, _, _, _, _, _⟩) (v := ?_) rfl (by kernel_rfl) (by kernel_rfl) (by kernel_rfl) (fun _ _ _ h => h) (Or.inl ⟨by simp [Region.wanted, yielded, undef], ?_⟩) (by assumption) ?_
              rotate_left
              · ((intro w hSw; (try dsimp only at hSw); go_simp) <;> with_reducible rfl)
              (try simp only [Act.put, List.setIfInBounds_toArray, List.set_cons_zero, List.set_cons_succ])
              refine wpAnyH_ready (rs := [1, 9]) (by kernel_rfl) (by simp) ?_
              refine (AllReadyH.cons (o := ⟨some 17, _, _, _, _, _⟩) rfl (fun K hK => ?_) (AllReadyH.cons (o := ⟨some 25, _, _, _, _, _⟩) rfl (fun K hK => ?_) AllReadyH.nil))
              · have c2 := HM4.out.cells.2.2.1
                go_simp
                clear c2
                refine hK.out _ _ ?_ (fun hHeld => ?_)
                · trivial
                clear hK K
                (try simp only [Act.put, List.setIfInBounds_toArray, List.set_cons_zero, List.set_cons_succ])
                refine wpAnyH_ready (rs := [9]) (by kernel_rfl) (by simp) ?_
                refine (AllReadyH.cons (o := ⟨some 25, _, _, _, _, _⟩) rfl (fun K hK => ?_) AllReadyH.nil)
                go_simp
                refine hK.out _ _ ?_ (fun hHeld => ?_)
                · trivial
                clear hK K
                (try simp only [Act.put, List.setIfInBounds_toArray, List.set_cons_zero, List.set_cons_succ])
                obtain ⟨W5, hW5⟩ : ∃ W : World, W = W4.alloc (.cells #[.string (bs x), .string (bs y)] 49) := ⟨_, rfl⟩
                rw [← hW5]
                have HM5 : Hid (MD w W5 w2.heap.size g v fs (bs b) (m + 6 + 6 * (2 - k) + 3 + 3)) := by rw [hW5]; exact HM4.out.old ((Below.refl _ _).alloc (Nat.le_refl _) _)
                have HF : Hid (W5.heap[W4.heap.size]? = some (.cells #[.string (bs x), .string (bs y)] 49 (0, 0))) := by rw [hW5]; exact heap_alloc_new _ _
                have hq5 : W4.heap.size < W5.heap.size := by rw [hW5]; simp
                clear hW5
                refine wpAnyH_ready (rs := [10]) (by kernel_rfl) (by simp) ?_
                refine (AllReadyH.cons (o := ⟨some 26, _, _, _, _, _⟩) rfl (fun K hK => ?_) AllReadyH.nil)
                have hzl := HM5.out.lt
                refine step_push_one elField rfl _ _ rfl (w.heap.size + 1) v fs.length (flat encP fs) rfl HM5.out.own W4.heap.size [.string (bs x), .string (bs y)] HF.out rfl rfl (by simp [Value.oneCell']) (by simp only [maxLen]; omega) (by omega) (by omega) ?_
                intro v6 w6 hp6
                obtain ⟨A6, c6, rfl, _⟩ := own_form hp6.1
                have HM6 := Lib.hid (HM5.out.push (f := (bs x, bs y)) hp6 rfl)
                obtain ⟨s0, s1⟩ := MD.pushedCells HM5.out hp6
                clear hp6 hzl
                refine hK.out _ _ ?_ (fun hHeld => ?_)
                · trivial
                clear hK K
                (try simp only [Act.put, List.setIfInBounds_toArray, List.set_cons_zero, List.set_cons_succ])
                refine wpAnyH_take (i := 11) (oi := ⟨some 27, _, _, _, _, _⟩) (v := ?_) rfl (by kernel_rfl) (by kernel_rfl) (by kernel_rfl) (fun _ _ _ h => h) (Or.inl ⟨by simp [Region.wanted, yielded, undef], ?_⟩) (by assumption) ?_
                rotate_left
                · ((intro w hSw; (try dsimp only at hSw); go_simp) <;> with_reducible rfl)
                (try simp only [Act.put, List.setIfInBounds_toArray, List.set_cons_zero, List.set_cons_succ])
                refine wpAnyH_ready (rs := [12]) (by kernel_rfl) (by simp) ?_
                refine (AllReadyH.cons rfl (fun K hK => ?_) AllReadyH.nil)
                go_simp
                refine hK.out _ _ ?_ (fun hHeld => ?_)
                · trivial
                clear hK K
                (try simp only [Act.put, List.setIfInBounds_toArray, List.set_cons_zero, List.set_cons_succ])
                refine wpAnyH_done (by kernel_rfl) ?_ _
                refine NoPanic.normal ?_
                go_wp2_with fail
                go_roundw
                case rel =>
                  refine ⟨k - 1, fs ++ [(bs x, bs y)], _, by omega, by simp; omega, by go_num, ?_, ⟨HM6.out.res, HM6.out.box, HM6.out.own, HM6.out.src.more (by omega), HM6.out.grown, HM6.out.gt, HM6.out.lo⟩⟩
                  intro f hf
                  rw [List.mem_append] at hf
                  rcases hf with hf | hf
                  · exact HALL.out f hf
                  · exact ⟨x, HDx.out, y, HDy.out, List.mem_singleton.1 hf⟩
                case measure => simp [intOf]; omega
              · go_simp
                refine hK.out _ _ ?_ (fun hHeld => ?_)
                · trivial
                clear hK K
                (try simp only [Act.put, List.setIfInBounds_toArray, List.set_cons_zero, List.set_cons_succ])
                obtain ⟨W5, hW5⟩ : ∃ W : World, W = W4.alloc (.cells #[.string (bs x), .string (bs y)] 49) := ⟨_, rfl⟩
                rw [← hW5]
                have HM5 : Hid (MD w W5 w2.heap.size g v fs (bs b) (m + 6 + 6 * (2 - k) + 3 + 3)) := by rw [hW5]; exact HM4.out.old ((Below.refl _ _).alloc (Nat.le_refl _) _)
                have HF : Hid (W5.heap[W4.heap.size]? = some (.cells #[.string (bs x), .string (bs y)] 49 (0, 0))) := by rw [hW5]; exact heap_alloc_new _ _
                have hq5 : W4.heap.size < W5.heap.size := by rw [hW5]; simp
                clear hW5
                refine wpAnyH_ready (rs := [1]) (by kernel_rfl) (by simp) ?_
                refine (AllReadyH.cons (o := ⟨some 17, _, _, _, _, _⟩) rfl (fun K hK => ?_) AllReadyH.nil)
                have c2 := HM5.out.cells.2.2.1
                go_simp
                clear c2
                refine hK.out _ _ ?_ (fun hHeld => ?_)
                · trivial
                clear hK K
                (try simp only [Act.put, List.setIfInBounds_toArray, List.set_cons_zero, List.set_cons_succ])
                refine wpAnyH_ready (rs := [10]) (by kernel_rfl) (by simp) ?_
                refine (AllReadyH.cons (o := ⟨some 26, _, _, _, _, _⟩) rfl (fun K hK => ?_) AllReadyH.nil)
                have hzl := HM5.out.lt
                refine step_push_one elField rfl _ _ rfl (w.heap.size + 1) v fs.length (flat encP fs) rfl HM5.out.own W4.heap.size [.string (bs x), .string (bs y)] HF.out rfl rfl (by simp [Value.oneCell']) (by simp only [maxLen]; omega) (by omega) (by omega) ?_
                intro v6 w6 hp6
                obtain ⟨A6, c6, rfl, _⟩ := own_form hp6.1
                have HM6 := Lib.hid (HM5.out.push (f := (bs x, bs y)) hp6 rfl)
                obtain ⟨s0, s1⟩ := MD.pushedCells HM5.out hp6
                clear hp6 hzl
                refine hK.out _ _ ?_ (fun hHeld => ?_)
                · trivial
                clear hK K
                (try simp only [Act.put, List.setIfInBounds_toArray, List.set_cons_zero, List.set_cons_succ])
                refine wpAnyH_take (i := 11) (oi := ⟨some 27, _, _, _, _, _⟩) (v := ?_) rfl (by kernel_rfl) (by kernel_rfl) (by kernel_rfl) (fun _ _ _ h => h) (Or.inl ⟨by simp [Region.wanted, yielded, undef], ?_⟩) (by assumption) ?_
                rotate_left
                · ((intro w hSw; (try dsimp only at hSw); go_simp) <;> with_reducible rfl)
                (try simp only [Act.put, List.setIfInBounds_toArray, List.set_cons_zero, List.set_cons_succ])
                refine wpAnyH_ready (rs := [12]) (by kernel_rfl) (by simp) ?_
                refine (AllReadyH.cons rfl (fun K hK => ?_) AllReadyH.nil)
                go_simp
                refine hK.out _ _ ?_ (fun hHeld => ?_)
                · trivial
                clear hK K
                (try simp only [Act.put, List.setIfInBounds_toArray, List.set_cons_zero, List.set_cons_succ])
                refine wpAnyH_done (by kernel_rfl) ?_ _
                refine NoPanic.normal ?_
                go_wp2_with fail
                go_roundw
                case rel =>
                  refine ⟨k - 1, fs ++ [(bs x, bs y)], _, by omega, by simp; omega, by go_num, ?_, ⟨HM6.out.res, HM6.out.box, HM6.out.own, HM6.out.src.more (by omega), HM6.out.grown, HM6.out.gt, HM6.out.lo⟩⟩
                  intro f hf
                  rw [List.mem_append] at hf
                  rcases hf with hf | hf
                  · exact HALL.out f hf
                  · exact ⟨x, HDx.out, y, HDy.out, List.mem_singleton.1 hf⟩
                case measure => simp [intOf]; omega
    · obtain ⟨A, c, rfl, _⟩ := own_form HMD.out.own
      have HO := Lib.hid (HMD.out.out (.slice A fs.length c) (.string (bs b)))
      go_wp2_with fail
      generalize (wr.setCell ⟨w.heap.size, 0, none⟩ (.slice A fs.length c)).setCell ⟨w.heap.size, 1, none⟩ (.string (bs b)) = W5 at HO ⊢
      obtain ⟨z0, z1, ho, hg⟩ := HO.out
      refine bodyPost_ret (v := msgV A fs.length c (bs b)) (by simp [results, Tryd.results52, go_sem, z0, z1]) rfl ?_
      exact ⟨A, c, fs, b, rfl, by omega, HALL.out, HBM.out, ho, hg⟩
end Go.Proofs.YtlfnpnkpjdmonaaDoor
