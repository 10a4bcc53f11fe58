import Derived.Test.YtlfnpnkpjdmonaaDoorDPush
set_option linter.unusedVariables false
set_option linter.unusedSimpArgs false
namespace Go.Proofs.YtlfnpnkpjdmonaaDoor
open Go.RowKit

@[reducible] def sv (x : List UInt8) : Value := .string (bs x)
/-! ### the source of choices -/
def Sr (w : World) (g : Nat) (m : Int) : Prop := ∃ (A : Option Addr) (c : Nat) (xs : List UInt8) (k s : Int), w.heap[g]? = some (.cells #[.slice A xs.length c, .int .i64 k, .int .i64 s] 93 (0, 0)) ∧ Rd w g A (xs.map bv) ∧ xs.length ≤ 1048576 ∧ 0 ≤ k ∧ k ≤ m ∧ 0 ≤ s ∧ s < 2147483648
theorem Sr.lt {w : World} {g : Nat} {m : Int} (h : Sr w g m) : g < w.heap.size := by
  obtain ⟨A, c, xs, k, s, h1, _⟩ := h
  exact (Array.getElem?_eq_some_iff.1 h1).1
theorem Sr.far {w w1 : World} {g : Nat} {m : Int} (h : Sr w g m) {r : Option Nat} (hg : w.grownBy w1 r) (hn : ∀ k, r = some k → g < k) : Sr w1 g m := by
  have hlt := h.lt
  obtain ⟨A, c, xs, k, s, h1, h2, h3⟩ := h
  refine ⟨A, c, xs, k, s, (hg.block g hlt (fun e => by have := hn g e.symm; omega)).trans h1, h2.keep fun p hp => World.cell?_of_block (hg.block _ (by omega) (fun e => by have := hn _ e.symm; omega)), h3⟩
theorem Sr.below {w w1 : World} {g : Nat} {m : Int} (h : Sr w g m) (hb : Below w.heap.size w w1) : Sr w1 g m := h.far (grown_below hb none) (fun k e => by cases e)
theorem Sr.more {w : World} {g : Nat} {m m' : Int} (h : Sr w g m) (hm : m ≤ m') : Sr w g m' := by
  obtain ⟨A, c, xs, k, s, h1, h2, h3, h4, h5, h6⟩ := h
  exact ⟨A, c, xs, k, s, h1, h2, h3, h4, by omega, h6⟩
theorem Sr.drawn {w : World} {g : Nat} {m : Int} (h : Sr w g m) (n : Nat) : Sr (w.drewN n) g m := h
def SrPost (w : World) (g : Nat) (m b : Int) (e : Ending) (w' : World) : Prop := ∃ n : Int, e = .returned (.int .i64 n) ∧ 0 ≤ n ∧ n < b ∧ Sr w' g m ∧ w.grownBy w' (some g)
theorem Rd.grown {w w1 : World} {g : Nat} {A : Option Addr} {l : List Value} (h : Rd w g A l) (hb : w.grownBy w1 (some g)) (hg : g < w.heap.size) : Rd w1 g A l := h.keep fun p hp => World.cell?_of_block (hb.block _ (by omega) (fun e => by injection e; omega))
theorem sr_step {w : World} {g : Nat} {m : Int} {A : Option Addr} {c : Nat} {xs : List UInt8} {k s : Int} (h1 : w.heap[g]? = some (.cells #[.slice A xs.length c, .int .i64 k, .int .i64 s] 93 (0, 0))) (hx : Rd w g A (xs.map bv)) (hl : xs.length ≤ 1048576) (k' : Int) (h4 : 0 ≤ k') (h5 : k' ≤ m) :
    (h6 : 0 ≤ s) → s < 2147483648 → Sr (w.setCell ⟨g, 1, none⟩ (.int .i64 k')) g m ∧ w.grownBy (w.setCell ⟨g, 1, none⟩ (.int .i64 k')) (some g) := fun h6 h7 => by
  have hg := (Array.getElem?_eq_some_iff.1 h1).1
  have hgr := grown_set w g 1 (.int .i64 k')
  refine ⟨⟨A, c, xs, k', s, ?_, hx.grown hgr hg, hl, h4, h5, h6, h7⟩, hgr⟩
  rw [heap_setCell_same w g 1 _ _ _ h1]
  rfl
theorem sr_step2 {w : World} {g : Nat} {m : Int} {A : Option Addr} {c : Nat} {xs : List UInt8} {k s : Int} (h1 : w.heap[g]? = some (.cells #[.slice A xs.length c, .int .i64 k, .int .i64 s] 93 (0, 0))) (hx : Rd w g A (xs.map bv)) (hl : xs.length ≤ 1048576) (k' s' : Int) (h4 : 0 ≤ k') (h5 : k' ≤ m) (h6 : 0 ≤ s') (h7 : s' < 2147483648) :
    Sr ((w.setCell ⟨g, 1, none⟩ (.int .i64 k')).setCell ⟨g, 2, none⟩ (.int .i64 s')) g m ∧ w.grownBy ((w.setCell ⟨g, 1, none⟩ (.int .i64 k')).setCell ⟨g, 2, none⟩ (.int .i64 s')) (some g) := by
  have hg := (Array.getElem?_eq_some_iff.1 h1).1
  have hgr := grown_after (grown_set w g 1 (.int .i64 k')) (grown_set _ g 2 (.int .i64 s'))
  refine ⟨⟨A, c, xs, k', s', ?_, hx.grown hgr hg, hl, h4, h5, h6, h7⟩, hgr⟩
  have e1 : (w.setCell ⟨g, 1, none⟩ (.int .i64 k')).heap[g]? = some (.cells #[.slice A xs.length c, .int .i64 k', .int .i64 s] 93 (0, 0)) := by
    rw [heap_setCell_same w g 1 _ _ _ h1]
    rfl
  rw [heap_setCell_same _ g 2 _ _ _ e1]
  rfl
theorem sr_step2d {w : World} {g : Nat} {m : Int} {A : Option Addr} {c : Nat} {xs : List UInt8} {k s : Int} (h1 : w.heap[g]? = some (.cells #[.slice A xs.length c, .int .i64 k, .int .i64 s] 93 (0, 0))) (hx : Rd w g A (xs.map bv)) (hl : xs.length ≤ 1048576) (k' s' : Int) (n : Nat) (h4 : 0 ≤ k') (h5 : k' ≤ m) (h6 : 0 ≤ s') (h7 : s' < 2147483648) :
    Sr (((w.setCell ⟨g, 1, none⟩ (.int .i64 k')).drewN n).setCell ⟨g, 2, none⟩ (.int .i64 s')) g m ∧ w.grownBy (((w.setCell ⟨g, 1, none⟩ (.int .i64 k')).drewN n).setCell ⟨g, 2, none⟩ (.int .i64 s')) (some g) := by
  obtain ⟨a, b⟩ := sr_step2 h1 hx hl k' s' h4 h5 h6 h7
  exact ⟨a, b.os, b.tape, b.output, b.size, b.block⟩
theorem sr_mk {w w' : World} {g : Nat} {m b n : Int} (h : Sr w' g m ∧ w.grownBy w' (some g)) (q : Nat) (h0 : 0 ≤ n) (h1 : n < b) : SrPost w g m b (.returned (.int .i64 n)) (w'.drewN q) := ⟨n, rfl, h0, h1, h.1, h.2.os, h.2.tape, h.2.output, h.2.size, h.2.block⟩
set_option maxRecDepth 100000 in
theorem byte_any (g : Nat) (m : Int) (w : World) (h : Sr w g m) (hm : m ≤ 1099511627776) : Calls Tryd.prog 85 #[.pointer (some ⟨g, 0, none⟩)] w (SrPost w g (m + 1) 256) := by
  obtain ⟨A, c, xs, k, s, h1, h2, h3, h4, h5, h6, h7⟩ := h
  have c0 := cell_of_row w g 0 _ _ _ h1
  have c1 := cell_of_row w g 1 _ _ _ h1
  have c2 := cell_of_row w g 2 _ _ _ h1
  have f1 := frozen_of_row w g 1 _ _ h1
  have f2 := frozen_of_row w g 2 _ _ h1
  simp only [List.getElem?_toArray, List.getElem?_cons_zero, List.getElem?_cons_succ] at c0 c1 c2
  have H1 := Lib.hid h1
  have HX := Lib.hid h2
  clear h1 h2
  by_cases hin : k + 1 ≤ xs.length
  · obtain ⟨k, rfl⟩ := Int.eq_ofNat_of_zero_le h4
    have hlt : k < xs.length := by omega
    obtain ⟨ad, rfl, hbl, hca⟩ := HX.out.at_ (map_at hlt)
    have hu := xs[k].toNat_lt
    have hcb : (xs[k].toNat : Int) < 256 := by omega
    have q0 : IntKind.i64.wrap (s * 31) = s * 31 := IntWalk.i64_in _ (by omega)
    have q1 : IntKind.i64.wrap (s * 31 + (xs[k].toNat : Int)) = s * 31 + (xs[k].toNat : Int) := IntWalk.i64_in _ (by omega)
    have q2 : IntKind.i64.wrap (s * 31 + (xs[k].toNat : Int) + 7) = s * 31 + (xs[k].toNat : Int) + 7 := IntWalk.i64_in _ (by omega)
    have hca' : ∀ (i : Nat) (u : Value), (w.setCell ⟨g, i, none⟩ u).cell? (ad.add k) = some (bv xs[k]) := fun i u => (World.cell?_setCell_other _ _ _ _ (by intro e; have := congrArg Addr.block e; simp only [add_block] at this; omega)).trans hca
    have hca'' : ∀ (i i' : Nat) (u u' : Value), ((w.setCell ⟨g, i, none⟩ u).setCell ⟨g, i', none⟩ u').cell? (ad.add k) = some (bv xs[k]) := fun i i' u u' => (World.cell?_setCell_other _ _ _ _ (by intro e; have := congrArg Addr.block e; simp only [add_block] at this; omega)).trans (hca' i u)
    have hca3 : ∀ (i i' n : Nat) (u u' : Value), (((w.setCell ⟨g, i, none⟩ u).drewN n).setCell ⟨g, i', none⟩ u').cell? (ad.add k) = some (bv xs[k]) := fun i i' n u u' => (World.cell?_setCell_other _ _ _ _ (by intro e; have := congrArg Addr.block e; simp only [add_block] at this; omega)).trans (hca' i u)
    clear hu
    go_enter Tryd.func85, Tryd.ntmps85
    go_wp2
    go_quiet (fail)
    go_wp2
    go_region
    all_goals
      go_wp2
      go_quiet (fail)
      go_wp2
      go_ret
      exact sr_mk (sr_step2d H1.out HX.out h3 _ _ _ (by omega) (by omega) (by omega) (by omega)) _ (by omega) (by omega)
  · by_cases hk : 3000 < k + 1
    · go_enter Tryd.func85, Tryd.ntmps85
      go_wp2
      go_quiet (fail)
      go_wp2
      go_ret
      exact sr_mk (sr_step H1.out HX.out h3 _ (by omega) (by omega) (by omega) (by omega)) _ (by omega) (by omega)
    · go_enter Tryd.func85, Tryd.ntmps85
      go_wp2
      go_quiet (fail)
      go_wp2
      go_ret
      exact sr_mk (sr_step2 H1.out HX.out h3 _ _ (by omega) (by omega) (by omega) (by omega)) _ (by omega) (by omega)
end Go.Proofs.YtlfnpnkpjdmonaaDoor
namespace Go.Proofs.YtlfnpnkpjdmonaaDoor
open Go.RowKit

set_option maxRecDepth 100000 in
theorem next_any (g : Nat) (m n : Int) (w : World) (h : Sr w g m) (hm : m ≤ 1099511627770) (hn : 1 < n) (hn2 : n ≤ 16777216) : Calls Tryd.prog 72 #[.pointer (some ⟨g, 0, none⟩), .int .i64 n] w (SrPost w g (m + 3) n) := by
  have HS := Lib.hid h
  clear h
  by_cases h256 : n ≤ 256
  · go_enter Tryd.func72, Tryd.ntmps72
    go_wp2_with fail
    refine (byte_any g m _ HS.out (by omega)).mono ?_
    rintro e w1 ⟨a, rfl, ha0, ha1, hs1, hg1⟩
    have H1 := Lib.hid (And.intro (hs1.more (m' := m + 3) (by omega)) hg1)
    clear hs1 hg1
    go_wp2_with fail
    go_ret
    exact ⟨_, rfl, Int.emod_nonneg _ (by omega), Int.emod_lt_of_pos _ (by omega), H1.out.1, H1.out.2⟩
  · go_enter Tryd.func72, Tryd.ntmps72
    go_wp2_with fail
    refine (byte_any g m _ HS.out (by omega)).mono ?_
    rintro e w1 ⟨a, rfl, ha0, ha1, hs1, hg1⟩
    have H1 := Lib.hid (And.intro hs1 hg1)
    clear hs1 hg1
    go_wp2_with fail
    refine (byte_any g _ _ H1.out.1 (by omega)).mono ?_
    rintro e w2 ⟨b, rfl, hb0, hb1, hs2, hg2⟩
    have H2 := Lib.hid (And.intro hs2 (grown_after H1.out.2 hg2))
    clear hs2 hg2 H1
    go_wp2_with fail
    refine (byte_any g _ _ H2.out.1 (by omega)).mono ?_
    rintro e w3 ⟨c, rfl, hc0, hc1, hs3, hg3⟩
    have H3 := Lib.hid (And.intro (hs3.more (m' := m + 3) (by omega)) (grown_after H2.out.2 hg3))
    clear hs3 hg3 H2
    go_wp2_with fail
    go_ret
    exact ⟨_, rfl, Int.emod_nonneg _ (by omega), Int.emod_lt_of_pos _ (by omega), H3.out.1, H3.out.2⟩
/-- next at one choice -/
theorem next_one (g : Nat) (m n : Int) (w : World) (h : Sr w g m) (hn : n ≤ 1) : Calls Tryd.prog 72 #[.pointer (some ⟨g, 0, none⟩), .int .i64 n] w fun e w' => e = .returned (.int .i64 0) ∧ w = w' := by
  clear h
  go_enter Tryd.func72, Tryd.ntmps72
  go_wp2_with fail
  go_ret
  exact ⟨rfl, rfl⟩
def PickPost (xs : List (List UInt8)) (w : World) (g : Nat) (m : Int) (e : Ending) (w' : World) : Prop := ∃ x ∈ xs, e = .returned (sv x) ∧ Sr w' g m ∧ w.grownBy w' (some g)
set_option maxRecDepth 100000 in
/-- one of some texts that lie above the source -/
theorem pick_any (g b : Nat) (m : Int) (c : Nat) (xs : List (List UInt8)) (w : World) (h : Sr w g m) (hm : m ≤ 1099511627770) (hgb : g < b) (hx : ∀ j, (hj : j < xs.length) → w.cell? ⟨b, j, none⟩ = some (sv xs[j])) (hb : b < w.heap.size) (hl : 1 < xs.length) (hl2 : xs.length ≤ 256) :
    Calls Tryd.prog 71 #[.pointer (some ⟨g, 0, none⟩), .slice (some ⟨b, 0, none⟩) xs.length c] w (PickPost xs w g (m + 3)) := by
  have HS := Lib.hid h
  have HX := Lib.hid hx
  clear h hx
  have hne : ((xs.length : Int) == 0) = false := by rw [beq_eq_false_iff_ne]; omega
  go_enter Tryd.func71, Tryd.ntmps71
  go_wp2_with fail
  refine (next_any g m xs.length _ HS.out hm (by omega) (by omega)).mono ?_
  rintro e w1 ⟨n, rfl, h0, h1, hs1, hg1⟩
  obtain ⟨n, rfl⟩ := Int.eq_ofNat_of_zero_le h0
  have hlt : n < xs.length := by omega
  have hc : w1.cell? ⟨b, n, none⟩ = some (sv xs[n]) := (World.cell?_of_block (hg1.block b hb (fun e => by have e' : b = g := Option.some.inj e; omega))).trans (HX.out n hlt)
  have H1 := Lib.hid (And.intro hs1 hg1)
  clear hs1 hg1
  go_wp2_with fail
  go_ret
  exact ⟨xs[n], List.getElem_mem _, rfl, H1.out.1, H1.out.2⟩
theorem source_any (A : Option Addr) (c : Nat) (xs : List UInt8) (w : World) (hx : Rd w w.heap.size A (xs.map bv)) (hl : xs.length ≤ 1048576) :
    Calls Tryd.prog 51 #[.slice A xs.length c] w fun e w' => e = .returned (.pointer (some ⟨w.heap.size, 0, none⟩)) ∧ Sr w' w.heap.size 0 ∧ Below w.heap.size w w' := by
  have hb : ∀ s : Int, Below w.heap.size w (w.alloc (.cells #[.slice A xs.length c, .int .i64 0, .int .i64 s] 93)) := fun s => by repeat (first | exact Below.refl _ _ | assumption | refine Below.drew ?_ | refine below_drewN ?_ _ | refine Below.setCell ?_ (by first | exact Nat.le_refl _ | exact Below.size (by assumption) | (simp; done) | (simp; omega) | omega) _ | refine Below.alloc ?_ (by first | exact Nat.le_refl _ | exact Below.size (by assumption) | (simp; done) | (simp; omega) | omega) _)
  have HS : Hid (Sr (w.alloc (.cells #[.slice A xs.length c, .int .i64 0, .int .i64 ((xs.length : Int) % 1000)] 93)) w.heap.size 0) := ⟨A, c, xs, 0, _, heap_alloc_new _ _, hx.below (hb _), hl, by omega, by omega, by omega, by omega⟩
  have HB := Lib.hid (hb ((xs.length : Int) % 1000))
  clear hx hb
  go_enter Tryd.func51, Tryd.ntmps51
  go_wp2_with fail
  go_ret
  exact ⟨rfl, HS.out, HB.out⟩
end Go.Proofs.YtlfnpnkpjdmonaaDoor
