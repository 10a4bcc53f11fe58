import Derived.Test.YtlfnpnkpjdmonaaCodec
set_option linter.unusedVariables false
set_option linter.unusedSimpArgs false
namespace Go.Proofs.Ytlfnpnkpjdmonaa
open Go.RowKit

/-! ### the source of choices -/
def Sr (w : World) (g : Nat) (m : Int) : Prop := ∃ (A : Option Addr) (c : Nat) (xs : List UInt8) (k s : Int), w.heap[g]? = some (.cells #[.slice A xs.length c, .int .i64 k, .int .i64 s] 195 (0, 0)) ∧ Rd w g A (xs.map bv) ∧ xs.length ≤ 1048576 ∧ 0 ≤ k ∧ k ≤ m ∧ 0 ≤ s ∧ s < 2147483648
theorem Sr.lt {w : World} {g : Nat} {m : Int} (h : Sr w g m) : g < w.heap.size := by
  obtain ⟨A, c, xs, k, s, h1, _⟩ := h
  exact (Array.getElem?_eq_some_iff.1 h1).1
theorem Sr.far {w w1 : World} {g : Nat} {m : Int} (h : Sr w g m) {r : Option Nat} (hg : w.grownBy w1 r) (hn : ∀ k, r = some k → g < k) : Sr w1 g m := by
  have hlt := h.lt
  obtain ⟨A, c, xs, k, s, h1, h2, h3⟩ := h
  refine ⟨A, c, xs, k, s, (hg.block g hlt (fun e => by have := hn g e.symm; omega)).trans h1, h2.keep fun p hp => World.cell?_of_block (hg.block _ (by omega) (fun e => by have := hn _ e.symm; omega)), h3⟩
theorem Sr.below {w w1 : World} {g : Nat} {m : Int} (h : Sr w g m) (hb : Below w.heap.size w w1) : Sr w1 g m := h.far (grown_below hb none) (fun k e => by cases e)
theorem Sr.more {w : World} {g : Nat} {m m' : Int} (h : Sr w g m) (hm : m ≤ m') : Sr w g m' := by
  obtain ⟨A, c, xs, k, s, h1, h2, h3, h4, h5, h6⟩ := h
  exact ⟨A, c, xs, k, s, h1, h2, h3, h4, by omega, h6⟩
theorem Sr.drawn {w : World} {g : Nat} {m : Int} (h : Sr w g m) (n : Nat) : Sr (w.drewN n) g m := h
def SrPost (w : World) (g : Nat) (m b : Int) (e : Ending) (w' : World) : Prop := ∃ n : Int, e = .returned (.int .i64 n) ∧ 0 ≤ n ∧ n < b ∧ Sr w' g m ∧ w.grownBy w' (some g)
theorem Rd.grown {w w1 : World} {g : Nat} {A : Option Addr} {l : List Value} (h : Rd w g A l) (hb : w.grownBy w1 (some g)) (hg : g < w.heap.size) : Rd w1 g A l := h.keep fun p hp => World.cell?_of_block (hb.block _ (by omega) (fun e => by injection e; omega))
theorem sr_step {w : World} {g : Nat} {m : Int} {A : Option Addr} {c : Nat} {xs : List UInt8} {k s : Int} (h1 : w.heap[g]? = some (.cells #[.slice A xs.length c, .int .i64 k, .int .i64 s] 195 (0, 0))) (hx : Rd w g A (xs.map bv)) (hl : xs.length ≤ 1048576) (k' : Int) (h4 : 0 ≤ k') (h5 : k' ≤ m) :
    (h6 : 0 ≤ s) → s < 2147483648 → Sr (w.setCell ⟨g, 1, none⟩ (.int .i64 k')) g m ∧ w.grownBy (w.setCell ⟨g, 1, none⟩ (.int .i64 k')) (some g) := fun h6 h7 => by
  have hg := (Array.getElem?_eq_some_iff.1 h1).1
  have hgr := grown_set w g 1 (.int .i64 k')
  refine ⟨⟨A, c, xs, k', s, ?_, hx.grown hgr hg, hl, h4, h5, h6, h7⟩, hgr⟩
  rw [heap_setCell_same w g 1 _ _ _ h1]
  rfl
theorem sr_step2 {w : World} {g : Nat} {m : Int} {A : Option Addr} {c : Nat} {xs : List UInt8} {k s : Int} (h1 : w.heap[g]? = some (.cells #[.slice A xs.length c, .int .i64 k, .int .i64 s] 195 (0, 0))) (hx : Rd w g A (xs.map bv)) (hl : xs.length ≤ 1048576) (k' s' : Int) (h4 : 0 ≤ k') (h5 : k' ≤ m) (h6 : 0 ≤ s') (h7 : s' < 2147483648) :
    Sr ((w.setCell ⟨g, 1, none⟩ (.int .i64 k')).setCell ⟨g, 2, none⟩ (.int .i64 s')) g m ∧ w.grownBy ((w.setCell ⟨g, 1, none⟩ (.int .i64 k')).setCell ⟨g, 2, none⟩ (.int .i64 s')) (some g) := by
  have hg := (Array.getElem?_eq_some_iff.1 h1).1
  have hgr := grown_after (grown_set w g 1 (.int .i64 k')) (grown_set _ g 2 (.int .i64 s'))
  refine ⟨⟨A, c, xs, k', s', ?_, hx.grown hgr hg, hl, h4, h5, h6, h7⟩, hgr⟩
  have e1 : (w.setCell ⟨g, 1, none⟩ (.int .i64 k')).heap[g]? = some (.cells #[.slice A xs.length c, .int .i64 k', .int .i64 s] 195 (0, 0)) := by
    rw [heap_setCell_same w g 1 _ _ _ h1]
    rfl
  rw [heap_setCell_same _ g 2 _ _ _ e1]
  rfl
theorem sr_step2d {w : World} {g : Nat} {m : Int} {A : Option Addr} {c : Nat} {xs : List UInt8} {k s : Int} (h1 : w.heap[g]? = some (.cells #[.slice A xs.length c, .int .i64 k, .int .i64 s] 195 (0, 0))) (hx : Rd w g A (xs.map bv)) (hl : xs.length ≤ 1048576) (k' s' : Int) (n : Nat) (h4 : 0 ≤ k') (h5 : k' ≤ m) (h6 : 0 ≤ s') (h7 : s' < 2147483648) :
    Sr (((w.setCell ⟨g, 1, none⟩ (.int .i64 k')).drewN n).setCell ⟨g, 2, none⟩ (.int .i64 s')) g m ∧ w.grownBy (((w.setCell ⟨g, 1, none⟩ (.int .i64 k')).drewN n).setCell ⟨g, 2, none⟩ (.int .i64 s')) (some g) := by
  obtain ⟨a, b⟩ := sr_step2 h1 hx hl k' s' h4 h5 h6 h7
  exact ⟨a, b.os, b.tape, b.output, b.size, b.block⟩
theorem sr_mk {w w' : World} {g : Nat} {m b n : Int} (h : Sr w' g m ∧ w.grownBy w' (some g)) (q : Nat) (h0 : 0 ≤ n) (h1 : n < b) : SrPost w g m b (.returned (.int .i64 n)) (w'.drewN q) := ⟨n, rfl, h0, h1, h.1, h.2.os, h.2.tape, h.2.output, h.2.size, h.2.block⟩
set_option maxRecDepth 100000 in
theorem byte_any (g : Nat) (m : Int) (w : World) (h : Sr w g m) (hm : m ≤ 1099511627776) : Calls Try.prog 238 #[.pointer (some ⟨g, 0, none⟩)] w (SrPost w g (m + 1) 256) := by
  obtain ⟨A, c, xs, k, s, h1, h2, h3, h4, h5, h6, h7⟩ := h
  have c0 := cell_of_row w g 0 _ _ _ h1
  have c1 := cell_of_row w g 1 _ _ _ h1
  have c2 := cell_of_row w g 2 _ _ _ h1
  have f1 := frozen_of_row w g 1 _ _ h1
  have f2 := frozen_of_row w g 2 _ _ h1
  simp only [List.getElem?_toArray, List.getElem?_cons_zero, List.getElem?_cons_succ] at c0 c1 c2
  have H1 := Lib.hid h1
  have HX := Lib.hid h2
  clear h1 h2
  by_cases hin : k + 1 ≤ xs.length
  · obtain ⟨k, rfl⟩ := Int.eq_ofNat_of_zero_le h4
    have hlt : k < xs.length := by omega
    obtain ⟨ad, rfl, hbl, hca⟩ := HX.out.at_ (map_at hlt)
    have hu := xs[k].toNat_lt
    have hcb : (xs[k].toNat : Int) < 256 := by omega
    have q0 : IntKind.i64.wrap (s * 31) = s * 31 := IntWalk.i64_in _ (by omega)
    have q1 : IntKind.i64.wrap (s * 31 + (xs[k].toNat : Int)) = s * 31 + (xs[k].toNat : Int) := IntWalk.i64_in _ (by omega)
    have q2 : IntKind.i64.wrap (s * 31 + (xs[k].toNat : Int) + 7) = s * 31 + (xs[k].toNat : Int) + 7 := IntWalk.i64_in _ (by omega)
    have hca' : ∀ (i : Nat) (u : Value), (w.setCell ⟨g, i, none⟩ u).cell? (ad.add k) = some (bv xs[k]) := fun i u => (World.cell?_setCell_other _ _ _ _ (by intro e; have := congrArg Addr.block e; simp only [add_block] at this; omega)).trans hca
    have hca'' : ∀ (i i' : Nat) (u u' : Value), ((w.setCell ⟨g, i, none⟩ u).setCell ⟨g, i', none⟩ u').cell? (ad.add k) = some (bv xs[k]) := fun i i' u u' => (World.cell?_setCell_other _ _ _ _ (by intro e; have := congrArg Addr.block e; simp only [add_block] at this; omega)).trans (hca' i u)
    have hca3 : ∀ (i i' n : Nat) (u u' : Value), (((w.setCell ⟨g, i, none⟩ u).drewN n).setCell ⟨g, i', none⟩ u').cell? (ad.add k) = some (bv xs[k]) := fun i i' n u u' => (World.cell?_setCell_other _ _ _ _ (by intro e; have := congrArg Addr.block e; simp only [add_block] at this; omega)).trans (hca' i u)
    clear hu
    go_enter Try.func238, Try.ntmps238
    go_wp2
    go_quiet (fail)
    go_wp2
    go_region
    all_goals
      go_wp2
      go_quiet (fail)
      go_wp2
      go_ret
      exact sr_mk (sr_step2d H1.out HX.out h3 _ _ _ (by omega) (by omega) (by omega) (by omega)) _ (by omega) (by omega)
  · by_cases hk : 3000 < k + 1
    · go_enter Try.func238, Try.ntmps238
      go_wp2
      go_quiet (fail)
      go_wp2
      go_ret
      exact sr_mk (sr_step H1.out HX.out h3 _ (by omega) (by omega) (by omega) (by omega)) _ (by omega) (by omega)
    · go_enter Try.func238, Try.ntmps238
      go_wp2
      go_quiet (fail)
      go_wp2
      go_ret
      exact sr_mk (sr_step2 H1.out HX.out h3 _ _ (by omega) (by omega) (by omega) (by omega)) _ (by omega) (by omega)
end Go.Proofs.Ytlfnpnkpjdmonaa
namespace Go.Proofs.Ytlfnpnkpjdmonaa
open Go.RowKit

set_option maxRecDepth 100000 in
theorem next_any (g : Nat) (m n : Int) (w : World) (h : Sr w g m) (hm : m ≤ 1099511627770) (hn : 1 < n) (hn2 : n ≤ 16777216) : Calls Try.prog 194 #[.pointer (some ⟨g, 0, none⟩), .int .i64 n] w (SrPost w g (m + 3) n) := by
  have HS := Lib.hid h
  clear h
  by_cases h256 : n ≤ 256
  · go_enter Try.func194, Try.ntmps194
    go_wp2_with fail
    refine (byte_any g m _ HS.out (by omega)).mono ?_
    rintro e w1 ⟨a, rfl, ha0, ha1, hs1, hg1⟩
    have H1 := Lib.hid (And.intro (hs1.more (m' := m + 3) (by omega)) hg1)
    clear hs1 hg1
    go_wp2_with fail
    go_ret
    exact ⟨_, rfl, Int.emod_nonneg _ (by omega), Int.emod_lt_of_pos _ (by omega), H1.out.1, H1.out.2⟩
  · go_enter Try.func194, Try.ntmps194
    go_wp2_with fail
    refine (byte_any g m _ HS.out (by omega)).mono ?_
    rintro e w1 ⟨a, rfl, ha0, ha1, hs1, hg1⟩
    have H1 := Lib.hid (And.intro hs1 hg1)
    clear hs1 hg1
    go_wp2_with fail
    refine (byte_any g _ _ H1.out.1 (by omega)).mono ?_
    rintro e w2 ⟨b, rfl, hb0, hb1, hs2, hg2⟩
    have H2 := Lib.hid (And.intro hs2 (grown_after H1.out.2 hg2))
    clear hs2 hg2 H1
    go_wp2_with fail
    refine (byte_any g _ _ H2.out.1 (by omega)).mono ?_
    rintro e w3 ⟨c, rfl, hc0, hc1, hs3, hg3⟩
    have H3 := Lib.hid (And.intro (hs3.more (m' := m + 3) (by omega)) (grown_after H2.out.2 hg3))
    clear hs3 hg3 H2
    go_wp2_with fail
    go_ret
    exact ⟨_, rfl, Int.emod_nonneg _ (by omega), Int.emod_lt_of_pos _ (by omega), H3.out.1, H3.out.2⟩
/-- next at one choice -/
theorem next_one (g : Nat) (m n : Int) (w : World) (h : Sr w g m) (hn : n ≤ 1) : Calls Try.prog 194 #[.pointer (some ⟨g, 0, none⟩), .int .i64 n] w fun e w' => e = .returned (.int .i64 0) ∧ w = w' := by
  clear h
  go_enter Try.func194, Try.ntmps194
  go_wp2_with fail
  go_ret
  exact ⟨rfl, rfl⟩
def PickPost (xs : List (List UInt8)) (w : World) (g : Nat) (m : Int) (e : Ending) (w' : World) : Prop := ∃ x ∈ xs, e = .returned (sv x) ∧ Sr w' g m ∧ w.grownBy w' (some g)
set_option maxRecDepth 100000 in
/-- one of some texts that lie above the source -/
theorem pick_any (g b : Nat) (m : Int) (c : Nat) (xs : List (List UInt8)) (w : World) (h : Sr w g m) (hm : m ≤ 1099511627770) (hgb : g < b) (hx : ∀ j, (hj : j < xs.length) → w.cell? ⟨b, j, none⟩ = some (sv xs[j])) (hb : b < w.heap.size) (hl : 1 < xs.length) (hl2 : xs.length ≤ 256) :
    Calls Try.prog 195 #[.pointer (some ⟨g, 0, none⟩), .slice (some ⟨b, 0, none⟩) xs.length c] w (PickPost xs w g (m + 3)) := by
  have HS := Lib.hid h
  have HX := Lib.hid hx
  clear h hx
  have hne : ((xs.length : Int) == 0) = false := by rw [beq_eq_false_iff_ne]; omega
  go_enter Try.func195, Try.ntmps195
  go_wp2_with fail
  refine (next_any g m xs.length _ HS.out hm (by omega) (by omega)).mono ?_
  rintro e w1 ⟨n, rfl, h0, h1, hs1, hg1⟩
  obtain ⟨n, rfl⟩ := Int.eq_ofNat_of_zero_le h0
  have hlt : n < xs.length := by omega
  have hc : w1.cell? ⟨b, n, none⟩ = some (sv xs[n]) := (World.cell?_of_block (hg1.block b hb (fun e => by have e' : b = g := Option.some.inj e; omega))).trans (HX.out n hlt)
  have H1 := Lib.hid (And.intro hs1 hg1)
  clear hs1 hg1
  go_wp2_with fail
  go_ret
  exact ⟨xs[n], List.getElem_mem _, rfl, H1.out.1, H1.out.2⟩
/-! ### texts that are drawn -/
def drawnTexts : List (List UInt8) := [[], [97], [116, 101, 120, 116], [0, 1]]
theorem Sr.own {w : World} {g : Nat} {m : Int} (h : Sr w g m) : g < w.heap.size := h.lt
def TextsPost (w : World) (g : Nat) (e : Ending) (w' : World) : Prop := ∃ (v : Value) (xs : List (List UInt8)), e = .returned v ∧ xs.length ≤ 5 ∧ (∀ x ∈ xs, x ∈ drawnTexts) ∧ w'.ownsRow w.heap.size 9 1 v xs.length (xs.map sv) ∧ w.grownBy w' (some g)
set_option maxRecDepth 100000 in
theorem texts_any (g : Nat) (m : Int) (w : World) (h : Sr w g m) (hm : m ≤ 1099511620000) : Calls Try.prog 124 #[.pointer (some ⟨g, 0, none⟩)] w (TextsPost w g) := by
  have hgl := h.lt
  have HS := Lib.hid (h.below ((Below.refl _ _).alloc (Nat.le_refl _) (.cells #[] 9)))
  have H0 : Hid ((w.alloc (.cells #[] 9)).ownsRow w.heap.size 9 1 (.slice (some ⟨w.heap.size, 0, none⟩) 0 0) 0 []) := own_empty_at (Nat.le_refl _) (heap_alloc_new _ _)
  have HG : Hid (w.grownBy (w.alloc (.cells #[] 9)) (some g)) := grown_below ((Below.refl _ _).alloc (Nat.le_refl _) _) _
  clear h
  go_enter Try.func124, Try.ntmps124
  go_wp2_with fail
  refine (next_any g m 6 _ HS.out (by omega) (by omega) (by omega)).mono ?_
  rintro e w1 ⟨n, rfl, h0, h1, hs1, hg1⟩
  have HS1 := Lib.hid hs1
  have HO1 := Lib.hid (H0.out.kept hg1 (.inr (by simp [Value.ownBlock]; omega)))
  have HG1 := Lib.hid (grown_after HG.out hg1)
  clear hs1 hg1 HS H0 HG
  go_wp2
  go_loopw [3, 4] (fun v i wr => ∃ (k : Int) (xs : List (List UInt8)), 0 ≤ k ∧ k + xs.length ≤ 5 ∧ i = .int .i64 k ∧ (∀ x ∈ xs, x ∈ drawnTexts) ∧ wr.ownsRow w.heap.size 9 1 v xs.length (xs.map sv) ∧ Sr wr g (m + 3 + 3 * xs.length) ∧ w.grownBy wr (some g)) (fun _ i _ => (intOf i).toNat)
  case atStart => exact ⟨n, [], h0, by simp; omega, rfl, by simp, HO1.out, by simpa using HS1.out, HG1.out⟩
  case round =>
    obtain ⟨k, xs, hk0, hkl, rfl, hall, ho, hs, hg⟩ := hrel
    have HA := Lib.hid hall
    have HO := Lib.hid ho
    have HS := Lib.hid hs
    have HG := Lib.hid hg
    have hsw := hg.size
    clear hall ho hs hg HS1 HO1 HG1
    by_cases hk : 0 < k
    · have HB : Hid (Below wr.heap.size wr (wr.alloc (.cells #[.string ⟨#[]⟩, .string ⟨#[97]⟩, .string ⟨#[116, 101, 120, 116]⟩, .string ⟨#[0, 1]⟩] 9))) := by show Below _ _ _; repeat (first | exact Below.refl _ _ | assumption | refine Below.drew ?_ | refine below_drewN ?_ _ | refine Below.setCell ?_ (by first | exact Nat.le_refl _ | exact Below.size (by assumption) | (simp; done) | (simp; omega) | omega) _ | refine Below.alloc ?_ (by first | exact Nat.le_refl _ | exact Below.size (by assumption) | (simp; done) | (simp; omega) | omega) _)
      go_wp2_with fail
      refine (pick_any g wr.heap.size (m + 3 + 3 * xs.length) 4 drawnTexts _ (HS.out.below HB.out) (by omega) (by omega) ?_ (by simp) (by simp [drawnTexts]) (by simp [drawnTexts])).mono ?_
      · intro j hj
        match j, hj with
        | 0, _ => simp [go_sem]; rfl
        | 1, _ => simp [go_sem]; rfl
        | 2, _ => simp [go_sem]; rfl
        | 3, _ => simp [go_sem]; rfl
      rintro e w2 ⟨x, hxm, rfl, hs2, hg2⟩
      have HS2 := Lib.hid hs2
      have HG2 := Lib.hid (grown_after (grown_after HG.out (grown_below HB.out (some g))) hg2)
      have hsz2 := hg2.size
      simp only [World.size_alloc] at hsz2
      have HO2 := Lib.hid ((own_below HO.out HB.out).kept hg2 (by
        cases hv : u3.ownBlock with
        | none => exact .inl rfl
        | some q => exact .inr (fun e => by have := (HO.out.lt q hv).1; injection e; omega)))
      have HX := Lib.hid hxm
      clear hs2 hg2 hxm
      go_wp2_with (at_builtin; refine push_one elStr rfl _ _ rfl w.heap.size u3 xs.length (xs.map sv) rfl HO2.out [sv x] _ rfl rfl rfl (by simp [Value.oneCell']) (by simp only [maxLen]; omega) (by omega) (by omega) ?_)
      intro v3 w3 hp
      have HS3 := Lib.hid (HS2.out.far hp.2 (fun q hq => by have := (HO2.out.lt q hq).1; omega))
      have HG3 : Hid (w.grownBy w3 (some g)) := ⟨hp.2.os.trans HG2.out.os, hp.2.tape.trans HG2.out.tape, hp.2.output.trans HG2.out.output, Nat.le_trans HG2.out.size hp.2.size, fun q hq hn => (hp.2.block q (Nat.lt_of_lt_of_le hq HG2.out.size) (fun e => by have := (HO2.out.lt q e.symm).1; omega)).trans (HG2.out.block q hq hn)⟩
      have HP := Lib.hid hp.1
      clear hp
      go_wp2_with fail
      go_roundw
      case rel =>
        refine ⟨k - 1, xs ++ [x], by omega, by simp; omega, by go_num, ?_, ?_, ?_, HG3.out⟩
        · intro y hy
          rw [List.mem_append] at hy
          rcases hy with hy | hy
          · exact HA.out y hy
          · simp at hy; subst hy; exact HX.out
        · have h := HP.out
          rw [List.length_append, List.map_append]
          exact h
        · exact HS3.out.more (by simp; omega)
      case measure => simp [intOf]; omega
    · go_wp2
      go_ret
      exact ⟨_, xs, rfl, by omega, HA.out, HO.out, HG.out⟩
end Go.Proofs.Ytlfnpnkpjdmonaa
namespace Go.Proofs.Ytlfnpnkpjdmonaa
open Go.RowKit

theorem source_any (A : Option Addr) (c : Nat) (xs : List UInt8) (w : World) (hx : Rd w w.heap.size A (xs.map bv)) (hl : xs.length ≤ 1048576) :
    Calls Try.prog 123 #[.slice A xs.length c] w fun e w' => e = .returned (.pointer (some ⟨w.heap.size, 0, none⟩)) ∧ Sr w' w.heap.size 0 ∧ Below w.heap.size w w' := by
  have hb : ∀ s : Int, Below w.heap.size w (w.alloc (.cells #[.slice A xs.length c, .int .i64 0, .int .i64 s] 195)) := fun s => by repeat (first | exact Below.refl _ _ | assumption | refine Below.drew ?_ | refine below_drewN ?_ _ | refine Below.setCell ?_ (by first | exact Nat.le_refl _ | exact Below.size (by assumption) | (simp; done) | (simp; omega) | omega) _ | refine Below.alloc ?_ (by first | exact Nat.le_refl _ | exact Below.size (by assumption) | (simp; done) | (simp; omega) | omega) _)
  have HS : Hid (Sr (w.alloc (.cells #[.slice A xs.length c, .int .i64 0, .int .i64 ((xs.length : Int) % 1000)] 195)) w.heap.size 0) := ⟨A, c, xs, 0, _, heap_alloc_new _ _, hx.below (hb _), hl, by omega, by omega, by omega, by omega⟩
  have HB := Lib.hid (hb ((xs.length : Int) % 1000))
  clear hx hb
  go_enter Try.func123, Try.ntmps123
  go_wp2_with fail
  go_ret
  exact ⟨rfl, HS.out, HB.out⟩
def ToTexts (w : World) (e : Ending) (w' : World) : Prop := ∃ (v : Value) (xs : List (List UInt8)), e = .returned v ∧ xs.length ≤ 5 ∧ (∀ x ∈ xs, x ∈ drawnTexts) ∧ w'.ownsRow w.heap.size 9 1 v xs.length (xs.map sv) ∧ Below w.heap.size w w'
theorem textsOf_any (A : Option Addr) (c : Nat) (xs : List UInt8) (w : World) (hx : Rd w w.heap.size A (xs.map bv)) (hl : xs.length ≤ 1048576) :
    Calls Try.prog 47 #[.slice A xs.length c] w (ToTexts w) := by
  have HX := Lib.hid hx
  clear hx
  go_enter Try.func47, Try.ntmps47
  go_wp2_with fail
  refine (source_any A c xs _ HX.out hl).mono ?_
  rintro e w1 ⟨rfl, hs, hb⟩
  have hsz := hb.size
  have HS := Lib.hid hs
  clear hs
  go_wp2_with fail
  refine (texts_any w.heap.size 0 _ HS.out (by omega)).mono ?_
  rintro e w2 ⟨v, ys, rfl, hl2, hall, ho, hg⟩
  have HO := Lib.hid (And.intro hall (And.intro (own_mono ho hsz) (hb.trans (below_grown (some w.heap.size) hg hsz (fun k e => by injection e; omega)))))
  clear ho hg hb hall
  go_wp2_with fail
  go_ret
  exact ⟨v, ys, rfl, hl2, HO.out.1, HO.out.2.1, HO.out.2.2⟩
end Go.Proofs.Ytlfnpnkpjdmonaa
