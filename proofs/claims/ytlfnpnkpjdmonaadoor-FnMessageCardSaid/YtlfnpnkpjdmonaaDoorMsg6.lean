import Derived.Test.YtlfnpnkpjdmonaaDoorMsg5
set_option linter.unusedVariables false
set_option linter.unusedSimpArgs false
namespace Go.Proofs.YtlfnpnkpjdmonaaDoor
open Go.RowKit

/-! ### the law's own helpers at fields and messages -/
set_option maxRecDepth 100000 in
theorem eqField_self (p : Pr) (w : World) : Calls Tryd.prog 67 #[prV p, prV p] w fun e w' => e = .returned (.bool true) ∧ Below w.heap.size w w' := by
  obtain ⟨a, b⟩ := p
  go_enter Tryd.func67, Tryd.ntmps67
  go_wp2
  go_ret
  exact ⟨rfl, by repeat (first | exact Below.refl _ _ | assumption | refine Below.drew ?_ | refine below_drewN ?_ _ | refine Below.setCell ?_ (by first | exact Nat.le_refl _ | exact Below.size (by assumption) | (simp; done) | (simp; omega) | omega) _ | refine Below.alloc ?_ (by first | exact Nat.le_refl _ | exact Below.size (by assumption) | (simp; done) | (simp; omega) | omega) _)⟩
set_option maxRecDepth 100000 in
set_option maxHeartbeats 4000000 in
theorem eqFieldS_eq (A B : Option Addr) (c d : Nat) (xs : List Pr) (w : World) (hx : Rd w w.heap.size A (flat encP xs)) (hy : Rd w w.heap.size B (flat encP xs)) (hl : xs.length ≤ 1048576) :
    Calls Tryd.prog 40 #[.slice A xs.length c, .slice B xs.length d] w fun e w' => e = .returned (.bool true) ∧ Below w.heap.size w w' := by
  have HX := Lib.hid hx
  have HY := Lib.hid hy
  clear hx hy
  go_enter Tryd.func40, Tryd.ntmps40
  go_wp2
  go_loopw [5] (fun i wr => ∃ k : Nat, k ≤ xs.length ∧ i = .int .i64 k ∧ Below w.heap.size w wr) (fun i _ => xs.length - (intOf i).toNat)
  case atStart => exact ⟨0, Nat.zero_le _, rfl, Below.refl _ _⟩
  case round =>
    obtain ⟨k, hk, rfl, hb⟩ := hrel
    by_cases hlt : k < xs.length
    · obtain ⟨ad, rfl, hbl, h0, h1⟩ := (HX.out.below hb).pr hlt
      obtain ⟨bd, rfl, hbl', g0, g1⟩ := (HY.out.below hb).pr hlt
      have hcl := hb.size
      generalize hgx : xs[k] = x at *
      clear hgx
      go_wp2
      go_region_held3 (fun w' => w'.cell? (ad.add (k * 2)) = some (.string x.1) ∧ w'.cell? ⟨(ad.add (k * 2)).block, (ad.add (k * 2)).off + 1, none⟩ = some (.string x.2) ∧ w'.cell? (bd.add (k * 2)) = some (.string x.1) ∧ w'.cell? ⟨(bd.add (k * 2)).block, (bd.add (k * 2)).off + 1, none⟩ = some (.string x.2))
        (refine ⟨?_, ?_, ?_, ?_⟩ <;> first | assumption | (exact (hb2.cell (by simp only [add_block, World.size_drew]; omega)).trans (by assumption)))
        (first | (go_at_call 67; refine (eqField_self x _).mono ?_; rintro e w2 ⟨rfl, hb2⟩))
      all_goals
        have hb3 := below_after hb.drew hb2
        clear hb2
        go_wp2_with fail
        go_roundw
        case rel => exact ⟨k + 1, by omega, by go_num, hb3⟩
        case measure => simp [intOf]; omega
    · go_wp2
      go_ret
      exact ⟨rfl, hb⟩
set_option maxRecDepth 100000 in
theorem eqMessage_eq (b : ByteArray) (A B : Option Addr) (c d : Nat) (xs : List Pr) (w : World) (hx : Rd w w.heap.size A (flat encP xs)) (hy : Rd w w.heap.size B (flat encP xs)) (hl : xs.length ≤ 1048576) :
    Calls Tryd.prog 15 #[msgV A xs.length c b, msgV B xs.length d b] w fun e w' => e = .returned (.bool true) ∧ Below w.heap.size w w' := by
  have HB : ∀ W : World, Below w.heap.size w W → Calls Tryd.prog 40 #[.slice A xs.length c, .slice B xs.length d] W fun e w' => e = .returned (.bool true) ∧ Below W.heap.size W w' := fun W hb => eqFieldS_eq A B c d xs W (hx.next hb) (hy.next hb) hl
  have HB' := Lib.hid HB
  clear HB hx hy
  have hbe : Below w.heap.size w ((w.alloc (.cells #[.slice A xs.length c, .string b] 28)).alloc (.cells #[.slice B xs.length d, .string b] 28)) := by repeat (first | exact Below.refl _ _ | assumption | refine Below.drew ?_ | refine below_drewN ?_ _ | refine Below.setCell ?_ (by first | exact Nat.le_refl _ | exact Below.size (by assumption) | (simp; done) | (simp; omega) | omega) _ | refine Below.alloc ?_ (by first | exact Nat.le_refl _ | exact Below.size (by assumption) | (simp; done) | (simp; omega) | omega) _)
  have HBE := Lib.hid hbe
  clear hbe
  go_enter Tryd.func15, Tryd.ntmps15
  go_wp2_with fail
  refine (HB'.out _ HBE.out).mono ?_
  rintro e w2 ⟨rfl, hb2⟩
  have h4 : w2.cell? ⟨w.heap.size, 1, none⟩ = some (.string b) := (hb2.cell (by show w.heap.size < _; simp; omega)).trans (by simp [go_sem])
  have h5 : w2.cell? ⟨w.heap.size + 1, 1, none⟩ = some (.string b) := (hb2.cell (by show w.heap.size + 1 < _; simp)).trans (by simp [go_sem])
  have HB3 := Lib.hid (below_after HBE.out hb2)
  clear hb2
  go_wp2_with fail
  go_ret
  exact ⟨rfl, HB3.out⟩
def Marked2 (k : Int) (j : Nat) (cs : List Value) : Prop := ∀ i, i < j → cs[i * 2]? = some (.string (mkT (k + 2 * i))) ∧ cs[i * 2 + 1]? = some (.string (mkT (k + 2 * i + 1)))
theorem Marked2.step {k : Int} {j : Nat} {cs : List Value} (h : Marked2 k j cs) (hl : j * 2 + 2 ≤ cs.length) : Marked2 k (j + 1) ((cs.set (j * 2) (.string (mkT (k + 2 * j)))).set (j * 2 + 1) (.string (mkT (k + 2 * j + 1)))) := by
  intro i hi
  by_cases e : i = j
  · subst e
    refine ⟨?_, ?_⟩
    · rw [List.getElem?_set_ne (by omega), List.getElem?_set_self (by omega)]
    · rw [List.getElem?_set_self (by rw [List.length_set]; omega)]
  · rw [List.getElem?_set_ne (by omega), List.getElem?_set_ne (by omega), List.getElem?_set_ne (by omega), List.getElem?_set_ne (by omega)]
    exact h i (by omega)
theorem grown_drop {w w1 w2 : World} {row : Option Nat} (h : w.grownBy w1 row) (hb : Below w1.heap.size w1 w2) : w.grownBy w2 row := grown_after h (grown_below hb _)
set_option maxRecDepth 100000 in
set_option maxHeartbeats 4000000 in
theorem markFieldS_any (base : Nat) (v : Value) (n : Nat) (xs : List Value) (k : Int) (w : World) (hv : w.ownsRow base 49 2 v n xs) (hl : n ≤ 1048576) (h0 : 0 ≤ k) (h1 : k ≤ 1048576) :
    Calls Tryd.prog 41 #[v, .int .i64 k] w fun e w' => e = .returned (.int .i64 (k + 2 * n)) ∧ (∃ cs, w'.ownsRow base 49 2 v n cs ∧ Marked2 k n cs) ∧ w.grownBy w' v.ownBlock := by
  rcases hv.2 with ⟨rfl, rfl⟩ | ⟨g, cap, cur, rfl, hbase, hg, hc⟩
  · go_enter Tryd.func41, Tryd.ntmps41
    go_wp2
    go_loopw [1, 5] (fun l i wr => i = .int .i64 0 ∧ l = .int .i64 k ∧ wr = w) (fun _ i _ => 0)
    case atStart => exact ⟨rfl, rfl, rfl⟩
    case round =>
      obtain ⟨rfl, rfl, rfl⟩ := hrel
      go_wp2
      go_ret
      exact ⟨ret_i (by omega), ⟨xs, hv, fun i hi => by omega⟩, World.grownBy.refl _ _⟩
  · have HV := Lib.hid hv
    clear hv hc hg
    go_enter Tryd.func41, Tryd.ntmps41
    go_wp2
    go_loopw [1, 5] (fun l i wr => ∃ (j : Nat) (cs : List Value), j ≤ n ∧ i = .int .i64 j ∧ l = .int .i64 (k + 2 * j) ∧ wr.ownsRow base 49 2 (.slice (some ⟨g, 0, none⟩) n cap) n cs ∧ Marked2 k j cs ∧ w.grownBy wr (some g)) (fun _ i _ => n - (intOf i).toNat)
    case atStart => exact ⟨0, xs, Nat.zero_le _, rfl, by simp, HV.out, fun i hi => by omega, World.grownBy.refl _ _⟩
    case round =>
      obtain ⟨j, cs, hj, rfl, rfl, ho, hmk, hgr⟩ := hrel
      by_cases hlt : j < n
      · have HO := Lib.hid ho
        have HGR := Lib.hid hgr
        clear ho hgr
        have HLN : Hid (cs.length = n * 2) := HO.out.1
        have HMK := Lib.hid hmk
        clear hmk
        have HG0 : Hid (w.grownBy wr (some g)) := HGR.out
        have HO0 := HO
        go_wp2_with fail
        refine (markText_any _ _ (by omega)).mono ?_
        rintro e w1 ⟨rfl, hb1⟩
        have ho1 := own_below HO0.out hb1
        have hln : j * 2 + 2 ≤ n * 2 := by omega
        have hle : _ = n * 2 := ho1.1
        have HG1 : Hid (w.grownBy (w1.setCell ⟨g, j * 2, none⟩ (.string (mkT (k + 2 * j)))) (some g)) := grown_after (grown_after HG0.out (grown_below hb1 _)) (grown_set _ _ _ _)
        have HO1 := Lib.hid (ho1.stored (j * 2) (.string (mkT (k + 2 * j)))).1
        have f0 : w1.frozen? ⟨g, j * 2, none⟩ = false := ho1.frozenAt (j * 2)
        have hcu : ∃ u, w1.cell? ⟨g, j * 2, none⟩ = some u := by
          rw [ho1.cellAt (j * 2) (by omega)]
          exact ⟨_, List.getElem?_eq_getElem (by omega)⟩
        obtain ⟨u0, c0⟩ := hcu
        clear ho1 hb1 hln hle HO0 HG0
        go_wp2_with fail
        refine (markText_any _ _ (by omega)).mono ?_
        rintro e w2 ⟨rfl, hb2⟩
        have ho2 := own_below HO1.out hb2
        have hln : j * 2 + 2 ≤ n * 2 := by omega
        have hle : _ = n * 2 := ho2.1
        have HG2 : Hid (w.grownBy (w2.setCell ⟨g, j * 2 + 1, none⟩ (.string (mkT (k + 2 * j + 1)))) (some g)) := grown_after (grown_after HG1.out (grown_below hb2 _)) (grown_set _ _ _ _)
        have HO2 := Lib.hid (ho2.stored (j * 2 + 1) (.string (mkT (k + 2 * j + 1)))).1
        have f1 : w2.frozen? ⟨g, j * 2 + 1, none⟩ = false := ho2.frozenAt (j * 2 + 1)
        have hcu : ∃ u, w2.cell? ⟨g, j * 2 + 1, none⟩ = some u := by
          rw [ho2.cellAt (j * 2 + 1) (by omega)]
          exact ⟨_, List.getElem?_eq_getElem (by omega)⟩
        obtain ⟨u1, c1⟩ := hcu
        clear ho2 hb2 hln hle HO1 HG1
        go_wp2_with fail
        go_roundw
        case rel => exact ⟨j + 1, _, by omega, by go_num, by go_num, HO2.out, HMK.out.step (by have := HLN.out; omega), HG2.out⟩
        case measure => simp [intOf]; omega
      · have HO := Lib.hid ho
        clear ho
        have hjn : j = n := by omega
        subst hjn
        go_wp2
        go_ret
        exact ⟨ret_i (by omega), ⟨cs, HO.out, hmk⟩, hgr⟩
set_option maxRecDepth 100000 in
set_option maxHeartbeats 4000000 in
theorem heldFieldS_any (base : Nat) (v : Value) (n : Nat) (xs : List Value) (k : Int) (w : World) (hv : w.ownsRow base 49 2 v n xs) (hm : Marked2 k n xs) (hl : n ≤ 1048576) (h0 : 0 ≤ k) (h1 : k ≤ 1048576) :
    Calls Tryd.prog 42 #[v, .int .i64 k] w fun e w' => e = .returned (.int .i64 (k + 2 * n)) ∧ Below w.heap.size w w' := by
  rcases hv.2 with ⟨rfl, rfl⟩ | ⟨g, cap, cur, rfl, hbase, hg, hc⟩
  · go_enter Tryd.func42, Tryd.ntmps42
    go_wp2
    go_loopw [1, 5] (fun l i wr => i = .int .i64 0 ∧ l = .int .i64 k ∧ wr = w) (fun _ i _ => 0)
    case atStart => exact ⟨rfl, rfl, rfl⟩
    case round =>
      obtain ⟨rfl, rfl, rfl⟩ := hrel
      go_wp2
      go_ret
      exact ⟨ret_i (by omega), Below.refl _ _⟩
  · have hgl : g < w.heap.size := (Array.getElem?_eq_some_iff.1 hg).1
    have HV := Lib.hid hv
    have HM := Lib.hid hm
    clear hv hc hg hm
    go_enter Tryd.func42, Tryd.ntmps42
    go_wp2
    go_loopw [1, 5] (fun l i wr => ∃ j : Nat, j ≤ n ∧ i = .int .i64 j ∧ l = .int .i64 (k + 2 * j) ∧ Below w.heap.size w wr) (fun _ i _ => n - (intOf i).toNat)
    case atStart => exact ⟨0, Nat.zero_le _, rfl, by simp, Below.refl _ _⟩
    case round =>
      obtain ⟨j, hj, rfl, rfl, hb⟩ := hrel
      by_cases hlt : j < n
      · have hs := hb.size
        have ho := own_below HV.out hb
        have hln : xs.length = n * 2 := ho.1
        have hm := HM.out j hlt
        have c0 : wr.cell? ⟨g, j * 2, none⟩ = some (.string (mkT (k + 2 * j))) := (ho.cellAt (j * 2) (by omega)).trans hm.1
        have c1 : wr.cell? ⟨g, j * 2 + 1, none⟩ = some (.string (mkT (k + 2 * j + 1))) := (ho.cellAt (j * 2 + 1) (by omega)).trans hm.2
        clear ho hln hm
        have hgw : g < wr.heap.size := by omega
        have HC : Hid (∀ W : World, Below wr.heap.size wr W → W.cell? ⟨g, j * 2, none⟩ = some (.string (mkT (k + 2 * j))) ∧ W.cell? ⟨g, j * 2 + 1, none⟩ = some (.string (mkT (k + 2 * j + 1)))) := fun W hB => ⟨(hB.cell hgw).trans c0, (hB.cell hgw).trans c1⟩
        have HB := Lib.hid hb
        clear hb
        clear c1
        go_wp2_with fail
        go_region_held3 (fun w' => w'.cell? ⟨g, j * 2, none⟩ = some (.string (mkT (k + 2 * j))))
          ((first | assumption | (refine (HC.out _ ?_).1; exact hb2)))
          (first | (go_at_call 50; refine (markText_any _ _ (by omega)).mono ?_; rintro e w2 ⟨rfl, hb2'⟩; have hb2 : Below wr.heap.size wr w2 := Below.trans (by first | exact Below.refl _ _ | exact (Below.refl _ _).drew) (hb2'.mono (by first | exact Nat.le_refl _ | (simp; done)))))
        all_goals
          have HB2 := Lib.hid hb2
          obtain ⟨-, d1⟩ := HC.out _ HB2.out
          clear hb2' hb2 c0
          go_wp2_with fail
          go_region_held3 (fun w' => w'.cell? ⟨g, j * 2 + 1, none⟩ = some (.string (mkT (k + 2 * j + 1))))
            ((first | assumption | (refine (HC.out _ ?_).2; exact hb3)))
            (first | (go_at_call 50; refine (markText_any _ _ (by omega)).mono ?_; rintro e w3 ⟨rfl, hb3'⟩; have hb3 : Below wr.heap.size wr w3 := HB2.out.drew.trans (hb3'.mono (by first | exact HB2.out.size | exact HB2.out.drew.size))))
          all_goals
            have HB3 := Lib.hid (HB.out.trans (hb3.mono hs))
            clear hb3' hb3 d1
            go_wp2_with fail
            go_roundw
            case rel => exact ⟨j + 1, by omega, by go_num, by go_num, HB3.out⟩
            case measure => simp [intOf]; omega
      · have hjn : j = n := by omega
        subst hjn
        go_wp2
        go_ret
        exact ⟨ret_i (by omega), hb⟩
set_option maxRecDepth 100000 in
theorem markMessage_any (b : ByteArray) (D : Option Addr) (n dc base : Nat) (xs : List Value) (k : Int) (w : World) (hv : w.ownsRow base 49 2 (.slice D n dc) n xs) (hl : n ≤ 1048576) (h0 : 0 ≤ k) (h1 : k ≤ 1048576) :
    Calls Tryd.prog 16 #[msgV D n dc b, .int .i64 k] w fun e w' => e = .returned (.int .i64 (k + 2 * n)) ∧ (∃ cs, w'.ownsRow base 49 2 (.slice D n dc) n cs ∧ Marked2 k n cs) ∧ w.grownBy w' (Value.slice D n dc).ownBlock := by
  have hbe : Below w.heap.size w (w.alloc (.cells #[.slice D n dc, .string b] 28)) := by repeat (first | exact Below.refl _ _ | assumption | refine Below.drew ?_ | refine below_drewN ?_ _ | refine Below.setCell ?_ (by first | exact Nat.le_refl _ | exact Below.size (by assumption) | (simp; done) | (simp; omega) | omega) _ | refine Below.alloc ?_ (by first | exact Nat.le_refl _ | exact Below.size (by assumption) | (simp; done) | (simp; omega) | omega) _)
  have HBE := Lib.hid hbe
  have HC := Lib.hid (markFieldS_any base (.slice D n dc) n xs k _ (own_below hv hbe) hl h0 h1)
  clear hbe hv
  go_enter Tryd.func16, Tryd.ntmps16
  go_wp2_with fail
  refine HC.out.mono ?_
  rintro e w2 ⟨rfl, ho, hgr⟩
  have HG := Lib.hid (grown_after (grown_below HBE.out _) hgr)
  have HO := Lib.hid ho
  clear hgr ho
  go_wp2_with fail
  go_ret
  exact ⟨rfl, HO.out, HG.out⟩
set_option maxRecDepth 100000 in
theorem heldMessage_any (b : ByteArray) (D : Option Addr) (n dc base : Nat) (xs : List Value) (k : Int) (w : World) (hv : w.ownsRow base 49 2 (.slice D n dc) n xs) (hm : Marked2 k n xs) (hl : n ≤ 1048576) (h0 : 0 ≤ k) (h1 : k ≤ 1048576) :
    Calls Tryd.prog 17 #[msgV D n dc b, .int .i64 k] w fun e w' => e = .returned (.int .i64 (k + 2 * n)) ∧ Below w.heap.size w w' := by
  have hbe : Below w.heap.size w (w.alloc (.cells #[.slice D n dc, .string b] 28)) := by repeat (first | exact Below.refl _ _ | assumption | refine Below.drew ?_ | refine below_drewN ?_ _ | refine Below.setCell ?_ (by first | exact Nat.le_refl _ | exact Below.size (by assumption) | (simp; done) | (simp; omega) | omega) _ | refine Below.alloc ?_ (by first | exact Nat.le_refl _ | exact Below.size (by assumption) | (simp; done) | (simp; omega) | omega) _)
  have HBE := Lib.hid hbe
  have HC := Lib.hid (heldFieldS_any base (.slice D n dc) n xs k _ (own_below hv hbe) hm hl h0 h1)
  clear hbe hv
  go_enter Tryd.func17, Tryd.ntmps17
  go_wp2_with fail
  refine HC.out.mono ?_
  rintro e w2 ⟨rfl, hb2⟩
  have HB := Lib.hid (below_after HBE.out hb2)
  clear hb2
  go_wp2_with fail
  go_ret
  exact ⟨rfl, HB.out⟩
end Go.Proofs.YtlfnpnkpjdmonaaDoor
