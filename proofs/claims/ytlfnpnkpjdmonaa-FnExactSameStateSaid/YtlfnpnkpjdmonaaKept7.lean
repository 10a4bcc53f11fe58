import Derived.Test.YtlfnpnkpjdmonaaKept6
set_option linter.unusedVariables false
set_option linter.unusedSimpArgs false
namespace Go.Proofs.Ytlfnpnkpjdmonaa
open Go.RowKit

theorem old_cell {wr : World} {o : Obj} {a : Addr} {u : Value} (h : wr.cell? a = some u) (hb : a.block < wr.heap.size) : (wr.alloc o).cell? a = some u := (World.cell?_alloc_lt _ _ _ hb).trans h
theorem take_data {l l' : List Kp} {k : Nat} (h1 : k < l.length) (h2 : k < l'.length) (h : (l.take k).map Kp.data = (l'.take k).map Kp.data) (he : l[k].data = l'[k].data) : (l.take (k + 1)).map Kp.data = (l'.take (k + 1)).map Kp.data := by
  rw [List.take_succ_eq_append_getElem h1, List.take_succ_eq_append_getElem h2, List.map_append, List.map_append, h]
  simp [he]
theorem ne_data {l l' : List Kp} {k : Nat} (h1 : k < l.length) (h2 : k < l'.length) (he : decide (l[k].data = l'[k].data) = false) : decide (l.map Kp.data = l'.map Kp.data) = false := by
  apply decide_eq_false
  intro h
  exact (of_decide_eq_false he) (data_at h h1 h2)
set_option maxRecDepth 100000 in
theorem equalFuncK_any (A B : Option Addr) (c d : Nat) (xs ys : List Kp) (w : World) (hx : KRd w w.heap.size A xs) (hy : KRd w w.heap.size B ys) (hl : xs.length ≤ 1048576) (hl' : ys.length ≤ 1048576) (hs : ∀ k ∈ xs, k.ps.length ≤ 1048576) (hs' : ∀ k ∈ ys, k.ps.length ≤ 1048576) :
    Calls Try.prog 120 #[.slice A xs.length c, .slice B ys.length d, .func (.func 121) #[] #[]] w fun e w' => e = .returned (.bool (decide (xs.map Kp.data = ys.map Kp.data))) ∧ Below w.heap.size w w' := by
  generalize hr : decide (xs.map Kp.data = ys.map Kp.data) = r
  have HR := Lib.hid hr
  clear hr
  by_cases hne : xs.length = ys.length
  · have HX := Lib.hid hx
    have HY := Lib.hid hy
    have HS := Lib.hid (And.intro hs hs')
    clear hx hy hs hs'
    have hb0 : ((xs.length : Int) != (ys.length : Int)) = false := by rw [hne]; simp
    have hle : xs.length ≤ ys.length := by omega
    have hge : ys.length ≤ xs.length := by omega
    clear hne
    go_enter Try.func120, Try.ntmps120
    go_wp2
    go_loopw [17] (fun i wr => ∃ k : Nat, k ≤ xs.length ∧ i = .int .i64 k ∧ (xs.take k).map Kp.data = (ys.take k).map Kp.data ∧ Below w.heap.size w wr) (fun i _ => xs.length - (intOf i).toNat)
    case atStart => exact ⟨0, Nat.zero_le _, rfl, rfl, Below.refl _ _⟩
    case round =>
      obtain ⟨k, hk, rfl, ht, hb⟩ := hrel
      have HT := Lib.hid ht
      clear ht
      by_cases hlt : k < xs.length
      · have hlt' : k < ys.length := by omega
        obtain ⟨ad, rfl, hbl, hca, hcb, hcc⟩ := (HX.out.1.below hb).kp hlt
        obtain ⟨bd, rfl, hbl', hda, hdb, hdc⟩ := (HY.out.1.below hb).kp hlt'
        have hcl := hb.size
        have hda' : ∀ o : Obj, (wr.alloc o).cell? (bd.add (k * 3)) = some (Value.string ys[k].name) := fun o => old_cell hda (by simp only [add_block]; omega)
        have hdb' : ∀ o : Obj, (wr.alloc o).cell? ⟨(bd.add (k * 3)).block, (bd.add (k * 3)).off + 1, none⟩ = some (Value.int .i64 ys[k].tick) := fun o => old_cell hdb (by simp only [add_block]; omega)
        have hdc' : ∀ o : Obj, (wr.alloc o).cell? ⟨(bd.add (k * 3)).block, (bd.add (k * 3)).off + 1 + 1, none⟩ = some (Value.slice ys[k].A ys[k].ps.length ys[k].c) := fun o => old_cell hdc (by simp only [add_block]; omega)
        have hw2 : Below w.heap.size w ((wr.alloc (.cells #[.string xs[k].name, .int .i64 xs[k].tick, .slice xs[k].A xs[k].ps.length xs[k].c] 131)).alloc (.cells #[.string ys[k].name, .int .i64 ys[k].tick, .slice ys[k].A ys[k].ps.length ys[k].c] 131)) := by repeat (first | exact Below.refl _ _ | assumption | refine Below.drew ?_ | refine below_drewN ?_ _ | refine Below.setCell ?_ (by first | exact Nat.le_refl _ | exact Below.size (by assumption) | (simp; done) | (simp; omega) | omega) _ | refine Below.alloc ?_ (by first | exact Nat.le_refl _ | exact Below.size (by assumption) | (simp; done) | (simp; omega) | omega) _)
        have HW2 := Lib.hid hw2
        have HSX : Hid (xs[k].ps.length ≤ 1048576) := HS.out.1 _ (List.getElem_mem _)
        have HSY : Hid (ys[k].ps.length ≤ 1048576) := HS.out.2 _ (List.getElem_mem _)
        have HNX := Lib.hid ((HX.out.2 xs[k] (List.getElem_mem _)).next hw2)
        have HNY := Lib.hid ((HY.out.2 ys[k] (List.getElem_mem _)).next hw2)
        have HNE := Lib.hid (fun h => HR.out.symm.trans (ne_data hlt hlt' h))
        have HEQ := Lib.hid (fun h => take_data hlt hlt' HT.out h)
        clear hw2
        generalize hgx : xs[k] = x at *
        generalize hgy : ys[k] = y at *
        clear hgx hgy
        go_wp2_with fail
        refine (sameKept_any x y _ HNX.out HNY.out (by have := HSX.out; simp only [maxLen]; omega) (by have := HSY.out; simp only [maxLen]; omega)).mono ?_
        rintro e w2 ⟨rfl, hb2⟩
        have HB2 := Lib.hid (below_after HW2.out hb2)
        clear hb2 hca hcb hcc hda hdb hdc hda' hdb' hdc'
        cases hd : decide (x.data = y.data) with
        | true =>
          have HD := Lib.hid (of_decide_eq_true hd)
          clear hd
          go_wp2_with fail
          go_roundw
          case rel => exact ⟨k + 1, by omega, by go_num, HEQ.out HD.out, HB2.out⟩
          case measure => simp [intOf]; omega
        | false =>
          have HD := Lib.hid hd
          clear hd
          go_wp2_with fail
          go_ret
          exact ⟨by rw [show r = false from HNE.out HD.out]; rfl, HB2.out⟩
      · go_wp2
        go_ret
        exact ⟨(by rw [show r = true from HR.out.symm.trans (decide_eq_true (by have := HT.out; rwa [List.take_of_length_le (by omega), List.take_of_length_le (by omega)] at this))]; rfl), hb⟩
  · have hf : r = false := by
      rw [← HR.out]
      simp
      intro h
      exact hne (by simpa using congrArg List.length h)
    subst hf
    clear hx hy HR hs hs'
    have hb0 : ((xs.length : Int) != (ys.length : Int)) = true := by simp; omega
    clear hne
    go_enter Try.func120, Try.ntmps120
    go_wp2
    go_ret
    exact ⟨rfl, Below.refl _ _⟩
end Go.Proofs.Ytlfnpnkpjdmonaa
