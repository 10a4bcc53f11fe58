import Derived.Test.YtlfnpnkpjdmonaaDiffW
set_option linter.unusedVariables false
set_option linter.unusedSimpArgs false
namespace Go.Proofs.Ytlfnpnkpjdmonaa
open Go.RowKit

/-! ### differences as the document lays them -/
theorem bel_cell {w w' : World} {ad : Addr} {u : Value} (hb : Below w.heap.size w w') (h : ad.block < w.heap.size) (k : w.cell? ad = some u) : w'.cell? ad = some u := (hb.cell h).trans k
theorem bel_cell1 {w w' : World} {ad : Addr} {u : Value} (hb : Below w.heap.size w w') (h : ad.block < w.heap.size) (k : w.cell? ⟨ad.block, ad.off + 1, none⟩ = some u) : w'.cell? ⟨ad.block, ad.off + 1, none⟩ = some u := (hb.cell (p := ⟨ad.block, ad.off + 1, none⟩) h).trans k
set_option maxRecDepth 100000 in
set_option maxHeartbeats 4000000 in
theorem l05Diff_any (A B : Option Addr) (ca cb : Nat) (l m : List Pr) (w : World) (hx : Rd w w.heap.size A (flat encP l)) (hy : Rd w w.heap.size B (flat encP m)) (hl : l.length ≤ 4096) (hm : m.length ≤ 4096) :
    Calls Try.prog 131 #[.slice A l.length ca, .slice B m.length cb] w (MadeD (diffM l m) w) := by
  have HX := Lib.hid hx
  have HY := Lib.hid hy
  have H0 : Hid ((w.alloc (.cells #[] 145)).ownsRow w.heap.size 145 5 (.slice (some ⟨w.heap.size, 0, none⟩) 0 0) 0 []) := own_empty_at (Nat.le_refl _) (heap_alloc_new _ _)
  clear hx hy
  go_enter Try.func131, Try.ntmps131
  go_wp2_with fail
  go_loopw [5, 6, 7] (fun v x y wr => ∃ (i j : Nat) (o : List Df), x = .int .i64 i ∧ y = .int .i64 j ∧ i ≤ l.length ∧ j ≤ m.length ∧ o ++ diffM (l.drop i) (m.drop j) = diffM l m ∧ o.length ≤ i + j ∧ wr.ownsRow w.heap.size 145 5 v o.length (flat encD o) ∧ Below w.heap.size w wr) (fun _ x y _ => l.length + m.length - ((intOf x).toNat + (intOf y).toNat))
  case atStart => exact ⟨0, 0, [], rfl, rfl, by omega, by omega, rfl, by simp, H0.out, by repeat (first | exact Below.refl _ _ | assumption | refine Below.drew ?_ | refine below_drewN ?_ _ | refine Below.setCell ?_ (by first | exact Nat.le_refl _ | exact Below.size (by assumption) | (simp; done) | (simp; omega) | omega) _ | refine Below.alloc ?_ (by first | exact Nat.le_refl _ | exact Below.size (by assumption) | (simp; done) | (simp; omega) | omega) _)⟩
  case round =>
    obtain ⟨i, j, o, rfl, rfl, hi, hj, heq, hlen, ho, hb⟩ := hrel
    have HE := Lib.hid heq
    have HO := Lib.hid ho
    have HB := Lib.hid hb
    have hsw := hb.size
    clear heq ho hb H0
    by_cases hil : i < l.length <;> by_cases hjl : j < m.length
    · obtain ⟨ad, rfl, hla0, hp1w, hp2w⟩ := HX.out.pr hil
      have hla : (ad.add (i * 2)).block < w.heap.size := by rw [add_block]; exact hla0
      have hda := List.drop_eq_getElem_cons hil
      have HXA := HX
      clear HX
      obtain ⟨p, hp⟩ : ∃ p, p = l[i] := ⟨_, rfl⟩
      rw [← hp] at hp1w hp2w hda
      have hp1 := bel_cell HB.out hla hp1w
      have hp2 := bel_cell1 HB.out hla hp2w
      have HPW := Lib.hid (And.intro hp1w hp2w)
      have HDA := Lib.hid hda
      have hi0 : ((i : Int) == (l.length : Int)) = false := by rw [beq_eq_false_iff_ne]; omega
      have hi1 : (i : Int) < (l.length : Int) := by omega
      clear hp1w hp2w hda hp
      obtain ⟨bd, rfl, hlb0, hq1w, hq2w⟩ := HY.out.pr hjl
      have hlb : (bd.add (j * 2)).block < w.heap.size := by rw [add_block]; exact hlb0
      have hdb := List.drop_eq_getElem_cons hjl
      have HYB := HY
      clear HY
      obtain ⟨q, hq⟩ : ∃ q, q = m[j] := ⟨_, rfl⟩
      rw [← hq] at hq1w hq2w hdb
      have hq1 := bel_cell HB.out hlb hq1w
      have hq2 := bel_cell1 HB.out hlb hq2w
      have HQW := Lib.hid (And.intro hq1w hq2w)
      have HDB := Lib.hid hdb
      have hj0 : ((j : Int) == (m.length : Int)) = false := by rw [beq_eq_false_iff_ne]; omega
      have hj1 : (j : Int) < (m.length : Int) := by omega
      clear hq1w hq2w hdb hq
      cases hlt : lt p.1 q.1 with
      | true =>
        have hlt1 : Op.bytesLess p.1.toList q.1.toList = true := hlt
        have HLT := Lib.hid hlt
        clear hlt
        go_wp2_with fail
        go_quiet (fail)
        go_wp2_with fail
        go_region_held3 (fun w' => w'.cell? (ad.add (i * 2)) = some (.string p.1) ∧ w'.cell? ⟨(ad.add (i * 2)).block, (ad.add (i * 2)).off + 1, none⟩ = some (.string p.2))
          (refine ⟨?_, ?_⟩ <;> first | assumption | exact bel_cell hb3 hla HPW.out.1 | exact bel_cell1 hb3 hla HPW.out.2 | exact bel_cell (show Below wr.heap.size wr _ by repeat (first | exact Below.refl _ _ | assumption | refine Below.drew ?_ | refine below_drewN ?_ _ | refine Below.setCell ?_ (by first | exact Nat.le_refl _ | exact Below.size (by assumption) | (simp; done) | (simp; omega) | omega) _ | refine Below.alloc ?_ (by first | exact Nat.le_refl _ | exact Below.size (by assumption) | (simp; done) | (simp; omega) | omega) _)) (Nat.lt_of_lt_of_le hla hsw) hp1 | exact bel_cell1 (show Below wr.heap.size wr _ by repeat (first | exact Below.refl _ _ | assumption | refine Below.drew ?_ | refine below_drewN ?_ _ | refine Below.setCell ?_ (by first | exact Nat.le_refl _ | exact Below.size (by assumption) | (simp; done) | (simp; omega) | omega) _ | refine Below.alloc ?_ (by first | exact Nat.le_refl _ | exact Below.size (by assumption) | (simp; done) | (simp; omega) | omega) _)) (Nat.lt_of_lt_of_le hla hsw) hp2)
          (first
            | (refine step_push_one elDiff rfl _ _ rfl w.heap.size u5 o.length _ rfl (own_below HO.out (by repeat (first | exact Below.refl _ _ | assumption | refine Below.drew ?_ | refine below_drewN ?_ _ | refine Below.setCell ?_ (by first | exact Nat.le_refl _ | exact Below.size (by assumption) | (simp; done) | (simp; omega) | omega) _ | refine Below.alloc ?_ (by first | exact Nat.le_refl _ | exact Below.size (by assumption) | (simp; done) | (simp; omega) | omega) _))) wr.heap.size (encD (delD p)) (heap_alloc_new _ _) rfl rfl (by simp [encD, delD, addD, chgD, Value.oneCell']) (by simp only [maxLen]; omega) (by omega) (by simp; omega) ?_; intro v3 w3 hp3; have hb3 := hp3.below (n := o.length) (xs := flat encD o) (own_below HO.out (by repeat (first | exact Below.refl _ _ | assumption | refine Below.drew ?_ | refine below_drewN ?_ _ | refine Below.setCell ?_ (by first | exact Nat.le_refl _ | exact Below.size (by assumption) | (simp; done) | (simp; omega) | omega) _ | refine Below.alloc ?_ (by first | exact Nat.le_refl _ | exact Below.size (by assumption) | (simp; done) | (simp; omega) | omega) _))) (below_after HB.out (by repeat (first | exact Below.refl _ _ | assumption | refine Below.drew ?_ | refine below_drewN ?_ _ | refine Below.setCell ?_ (by first | exact Nat.le_refl _ | exact Below.size (by assumption) | (simp; done) | (simp; omega) | omega) _ | refine Below.alloc ?_ (by first | exact Nat.le_refl _ | exact Below.size (by assumption) | (simp; done) | (simp; omega) | omega) _))) (by simp; omega))
            | fail)
        have HP3 := Lib.hid hp3.1
        clear hp3
        go_wp2_with fail
        go_roundw
        case rel =>
          refine ⟨i + 1, j, o ++ [delD p], by first | rfl | go_num, by first | rfl | go_num, by omega, by omega, ?_, by first | omega | (simp; omega), (by have h := HP3.out; rw [flat_append, List.length_append, flat_cons, flat_nil, List.append_nil]; exact own_below h (by repeat (first | exact Below.refl _ _ | assumption | refine Below.drew ?_ | refine below_drewN ?_ _ | refine Below.setCell ?_ (by first | exact Nat.le_refl _ | exact Below.size (by assumption) | (simp; done) | (simp; omega) | omega) _ | refine Below.alloc ?_ (by first | exact Nat.le_refl _ | exact Below.size (by assumption) | (simp; done) | (simp; omega) | omega) _))), hb3⟩
          rw [← HE.out, HDA.out, HDB.out, diffM_lt _ _ HLT.out]; simp
        case measure => first | (simp [intOf]; done) | (simp [intOf]; omega)
      | false =>
        have hlt1 : Op.bytesLess p.1.toList q.1.toList = false := hlt
        cases hgt : lt q.1 p.1 with
        | true =>
          have hgt1 : Op.bytesLess q.1.toList p.1.toList = true := hgt
          have HLT := Lib.hid hgt
          clear hlt hgt
          go_wp2_with fail
          go_quiet (fail)
          go_wp2_with fail
          go_quiet (fail)
          go_wp2_with fail
          go_region_held3 (fun w' => w'.cell? (bd.add (j * 2)) = some (.string q.1) ∧ w'.cell? ⟨(bd.add (j * 2)).block, (bd.add (j * 2)).off + 1, none⟩ = some (.string q.2))
            (refine ⟨?_, ?_⟩ <;> first | assumption | exact bel_cell hb3 hlb HQW.out.1 | exact bel_cell1 hb3 hlb HQW.out.2 | exact bel_cell (show Below wr.heap.size wr _ by repeat (first | exact Below.refl _ _ | assumption | refine Below.drew ?_ | refine below_drewN ?_ _ | refine Below.setCell ?_ (by first | exact Nat.le_refl _ | exact Below.size (by assumption) | (simp; done) | (simp; omega) | omega) _ | refine Below.alloc ?_ (by first | exact Nat.le_refl _ | exact Below.size (by assumption) | (simp; done) | (simp; omega) | omega) _)) (Nat.lt_of_lt_of_le hlb hsw) hq1 | exact bel_cell1 (show Below wr.heap.size wr _ by repeat (first | exact Below.refl _ _ | assumption | refine Below.drew ?_ | refine below_drewN ?_ _ | refine Below.setCell ?_ (by first | exact Nat.le_refl _ | exact Below.size (by assumption) | (simp; done) | (simp; omega) | omega) _ | refine Below.alloc ?_ (by first | exact Nat.le_refl _ | exact Below.size (by assumption) | (simp; done) | (simp; omega) | omega) _)) (Nat.lt_of_lt_of_le hlb hsw) hq2)
            (first
              | (refine step_push_one elDiff rfl _ _ rfl w.heap.size u5 o.length _ rfl (own_below HO.out (by repeat (first | exact Below.refl _ _ | assumption | refine Below.drew ?_ | refine below_drewN ?_ _ | refine Below.setCell ?_ (by first | exact Nat.le_refl _ | exact Below.size (by assumption) | (simp; done) | (simp; omega) | omega) _ | refine Below.alloc ?_ (by first | exact Nat.le_refl _ | exact Below.size (by assumption) | (simp; done) | (simp; omega) | omega) _))) wr.heap.size (encD (addD q)) (heap_alloc_new _ _) rfl rfl (by simp [encD, delD, addD, chgD, Value.oneCell']) (by simp only [maxLen]; omega) (by omega) (by simp; omega) ?_; intro v3 w3 hp3; have hb3 := hp3.below (n := o.length) (xs := flat encD o) (own_below HO.out (by repeat (first | exact Below.refl _ _ | assumption | refine Below.drew ?_ | refine below_drewN ?_ _ | refine Below.setCell ?_ (by first | exact Nat.le_refl _ | exact Below.size (by assumption) | (simp; done) | (simp; omega) | omega) _ | refine Below.alloc ?_ (by first | exact Nat.le_refl _ | exact Below.size (by assumption) | (simp; done) | (simp; omega) | omega) _))) (below_after HB.out (by repeat (first | exact Below.refl _ _ | assumption | refine Below.drew ?_ | refine below_drewN ?_ _ | refine Below.setCell ?_ (by first | exact Nat.le_refl _ | exact Below.size (by assumption) | (simp; done) | (simp; omega) | omega) _ | refine Below.alloc ?_ (by first | exact Nat.le_refl _ | exact Below.size (by assumption) | (simp; done) | (simp; omega) | omega) _))) (by simp; omega))
              | fail)
          have HP3 := Lib.hid hp3.1
          clear hp3
          go_wp2_with fail
          go_roundw
          case rel =>
            refine ⟨i, j + 1, o ++ [addD q], by first | rfl | go_num, by first | rfl | go_num, by omega, by omega, ?_, by first | omega | (simp; omega), (by have h := HP3.out; rw [flat_append, List.length_append, flat_cons, flat_nil, List.append_nil]; exact own_below h (by repeat (first | exact Below.refl _ _ | assumption | refine Below.drew ?_ | refine below_drewN ?_ _ | refine Below.setCell ?_ (by first | exact Nat.le_refl _ | exact Below.size (by assumption) | (simp; done) | (simp; omega) | omega) _ | refine Below.alloc ?_ (by first | exact Nat.le_refl _ | exact Below.size (by assumption) | (simp; done) | (simp; omega) | omega) _))), hb3⟩
            rw [← HE.out, HDA.out, HDB.out, diffM_gt _ _ HLT.out]; simp
          case measure => first | (simp [intOf]; done) | (simp [intOf]; omega)
        | false =>
          have hgt1 : Op.bytesLess q.1.toList p.1.toList = false := hgt
          have hkk := lt_tri hlt hgt
          clear hlt hgt
          by_cases hv : p.2 = q.2
          · have hv1 : (p.2.toList == q.2.toList) = true := by rw [hv]; simp
            have hv2 : (p.2.toList != q.2.toList) = false := by rw [hv]; simp
            have HK := Lib.hid (And.intro hkk hv)
            clear hkk hv
            go_wp2_with fail
            go_quiet (fail)
            go_wp2_with fail
            go_quiet (fail)
            go_wp2_with fail
            go_quiet (fail)
            go_wp2_with fail
            go_roundw
            case rel =>
              refine ⟨i + 1, j + 1, o, by first | rfl | go_num, by first | rfl | go_num, by omega, by omega, ?_, by first | omega | (simp; omega), (own_below HO.out (by repeat (first | exact Below.refl _ _ | assumption | refine Below.drew ?_ | refine below_drewN ?_ _ | refine Below.setCell ?_ (by first | exact Nat.le_refl _ | exact Below.size (by assumption) | (simp; done) | (simp; omega) | omega) _ | refine Below.alloc ?_ (by first | exact Nat.le_refl _ | exact Below.size (by assumption) | (simp; done) | (simp; omega) | omega) _))), (below_after HB.out (by repeat (first | exact Below.refl _ _ | assumption | refine Below.drew ?_ | refine below_drewN ?_ _ | refine Below.setCell ?_ (by first | exact Nat.le_refl _ | exact Below.size (by assumption) | (simp; done) | (simp; omega) | omega) _ | refine Below.alloc ?_ (by first | exact Nat.le_refl _ | exact Below.size (by assumption) | (simp; done) | (simp; omega) | omega) _)))⟩
              rw [← HE.out, HDA.out, HDB.out, diffM_eq _ _ HK.out.1 HK.out.2]
            case measure => first | (simp [intOf]; done) | (simp [intOf]; omega)
          · obtain ⟨hv1, hv2⟩ := neL hv
            have HK := Lib.hid (And.intro hkk hv)
            clear hkk hv
            go_wp2_with fail
            go_quiet (fail)
            go_wp2_with fail
            go_quiet (fail)
            go_wp2_with fail
            go_quiet (fail)
            go_wp2_with fail
            go_region_held3 (fun w' => w'.cell? (ad.add (i * 2)) = some (.string p.1) ∧ w'.cell? ⟨(ad.add (i * 2)).block, (ad.add (i * 2)).off + 1, none⟩ = some (.string p.2) ∧ w'.cell? ⟨(bd.add (j * 2)).block, (bd.add (j * 2)).off + 1, none⟩ = some (.string q.2))
              (refine ⟨?_, ?_, ?_⟩ <;> first | assumption | exact bel_cell hb3 hla HPW.out.1 | exact bel_cell1 hb3 hla HPW.out.2 | exact bel_cell1 hb3 hlb HQW.out.2 | exact bel_cell (show Below wr.heap.size wr _ by repeat (first | exact Below.refl _ _ | assumption | refine Below.drew ?_ | refine below_drewN ?_ _ | refine Below.setCell ?_ (by first | exact Nat.le_refl _ | exact Below.size (by assumption) | (simp; done) | (simp; omega) | omega) _ | refine Below.alloc ?_ (by first | exact Nat.le_refl _ | exact Below.size (by assumption) | (simp; done) | (simp; omega) | omega) _)) (Nat.lt_of_lt_of_le hla hsw) hp1 | exact bel_cell1 (show Below wr.heap.size wr _ by repeat (first | exact Below.refl _ _ | assumption | refine Below.drew ?_ | refine below_drewN ?_ _ | refine Below.setCell ?_ (by first | exact Nat.le_refl _ | exact Below.size (by assumption) | (simp; done) | (simp; omega) | omega) _ | refine Below.alloc ?_ (by first | exact Nat.le_refl _ | exact Below.size (by assumption) | (simp; done) | (simp; omega) | omega) _)) (Nat.lt_of_lt_of_le hla hsw) hp2 | exact bel_cell1 (show Below wr.heap.size wr _ by repeat (first | exact Below.refl _ _ | assumption | refine Below.drew ?_ | refine below_drewN ?_ _ | refine Below.setCell ?_ (by first | exact Nat.le_refl _ | exact Below.size (by assumption) | (simp; done) | (simp; omega) | omega) _ | refine Below.alloc ?_ (by first | exact Nat.le_refl _ | exact Below.size (by assumption) | (simp; done) | (simp; omega) | omega) _)) (Nat.lt_of_lt_of_le hlb hsw) hq2)
              (first
                | (refine step_push_one elDiff rfl _ _ rfl w.heap.size u5 o.length _ rfl (own_below HO.out (by repeat (first | exact Below.refl _ _ | assumption | refine Below.drew ?_ | refine below_drewN ?_ _ | refine Below.setCell ?_ (by first | exact Nat.le_refl _ | exact Below.size (by assumption) | (simp; done) | (simp; omega) | omega) _ | refine Below.alloc ?_ (by first | exact Nat.le_refl _ | exact Below.size (by assumption) | (simp; done) | (simp; omega) | omega) _))) wr.heap.size (encD (chgD p q)) (heap_alloc_new _ _) rfl rfl (by simp [encD, delD, addD, chgD, Value.oneCell']) (by simp only [maxLen]; omega) (by omega) (by simp; omega) ?_; intro v3 w3 hp3; have hb3 := hp3.below (n := o.length) (xs := flat encD o) (own_below HO.out (by repeat (first | exact Below.refl _ _ | assumption | refine Below.drew ?_ | refine below_drewN ?_ _ | refine Below.setCell ?_ (by first | exact Nat.le_refl _ | exact Below.size (by assumption) | (simp; done) | (simp; omega) | omega) _ | refine Below.alloc ?_ (by first | exact Nat.le_refl _ | exact Below.size (by assumption) | (simp; done) | (simp; omega) | omega) _))) (below_after HB.out (by repeat (first | exact Below.refl _ _ | assumption | refine Below.drew ?_ | refine below_drewN ?_ _ | refine Below.setCell ?_ (by first | exact Nat.le_refl _ | exact Below.size (by assumption) | (simp; done) | (simp; omega) | omega) _ | refine Below.alloc ?_ (by first | exact Nat.le_refl _ | exact Below.size (by assumption) | (simp; done) | (simp; omega) | omega) _))) (by simp; omega))
                | fail)
            have HP3 := Lib.hid hp3.1
            clear hp3
            go_wp2_with fail
            go_roundw
            case rel =>
              refine ⟨i + 1, j + 1, o ++ [chgD p q], by first | rfl | go_num, by first | rfl | go_num, by omega, by omega, ?_, by first | omega | (simp; omega), (by have h := HP3.out; rw [flat_append, List.length_append, flat_cons, flat_nil, List.append_nil]; exact own_below h (by repeat (first | exact Below.refl _ _ | assumption | refine Below.drew ?_ | refine below_drewN ?_ _ | refine Below.setCell ?_ (by first | exact Nat.le_refl _ | exact Below.size (by assumption) | (simp; done) | (simp; omega) | omega) _ | refine Below.alloc ?_ (by first | exact Nat.le_refl _ | exact Below.size (by assumption) | (simp; done) | (simp; omega) | omega) _))), (by repeat (first | exact Below.refl _ _ | assumption | refine Below.drew ?_ | refine below_drewN ?_ _ | refine Below.setCell ?_ (by first | exact Nat.le_refl _ | exact Below.size (by assumption) | (simp; done) | (simp; omega) | omega) _ | refine Below.alloc ?_ (by first | exact Nat.le_refl _ | exact Below.size (by assumption) | (simp; done) | (simp; omega) | omega) _))⟩
              rw [← HE.out, HDA.out, HDB.out, diffM_ne _ _ HK.out.1 HK.out.2]; simp
            case measure => first | (simp [intOf]; done) | (simp [intOf]; omega)
    · obtain ⟨ad, rfl, hla0, hp1w, hp2w⟩ := HX.out.pr hil
      have hla : (ad.add (i * 2)).block < w.heap.size := by rw [add_block]; exact hla0
      have hda := List.drop_eq_getElem_cons hil
      have HXA := HX
      clear HX
      obtain ⟨p, hp⟩ : ∃ p, p = l[i] := ⟨_, rfl⟩
      rw [← hp] at hp1w hp2w hda
      have hp1 := bel_cell HB.out hla hp1w
      have hp2 := bel_cell1 HB.out hla hp2w
      have HPW := Lib.hid (And.intro hp1w hp2w)
      have HDA := Lib.hid hda
      have hi0 : ((i : Int) == (l.length : Int)) = false := by rw [beq_eq_false_iff_ne]; omega
      have hi1 : (i : Int) < (l.length : Int) := by omega
      clear hp1w hp2w hda hp
      obtain rfl : j = m.length := by omega
      have HDB : Hid (m.drop m.length = []) := List.drop_length
      have hj0 : ((m.length : Int) == (m.length : Int)) = true := by simp
      have hj1 : decide ((m.length : Int) < (m.length : Int)) = false := by simp
      clear hjl
      go_wp2_with fail
      go_quiet (fail)
      go_wp2_with fail
      go_region_held3 (fun w' => w'.cell? (ad.add (i * 2)) = some (.string p.1) ∧ w'.cell? ⟨(ad.add (i * 2)).block, (ad.add (i * 2)).off + 1, none⟩ = some (.string p.2))
        (refine ⟨?_, ?_⟩ <;> first | assumption | exact bel_cell hb3 hla HPW.out.1 | exact bel_cell1 hb3 hla HPW.out.2 | exact bel_cell (show Below wr.heap.size wr _ by repeat (first | exact Below.refl _ _ | assumption | refine Below.drew ?_ | refine below_drewN ?_ _ | refine Below.setCell ?_ (by first | exact Nat.le_refl _ | exact Below.size (by assumption) | (simp; done) | (simp; omega) | omega) _ | refine Below.alloc ?_ (by first | exact Nat.le_refl _ | exact Below.size (by assumption) | (simp; done) | (simp; omega) | omega) _)) (Nat.lt_of_lt_of_le hla hsw) hp1 | exact bel_cell1 (show Below wr.heap.size wr _ by repeat (first | exact Below.refl _ _ | assumption | refine Below.drew ?_ | refine below_drewN ?_ _ | refine Below.setCell ?_ (by first | exact Nat.le_refl _ | exact Below.size (by assumption) | (simp; done) | (simp; omega) | omega) _ | refine Below.alloc ?_ (by first | exact Nat.le_refl _ | exact Below.size (by assumption) | (simp; done) | (simp; omega) | omega) _)) (Nat.lt_of_lt_of_le hla hsw) hp2)
        (first
          | (refine step_push_one elDiff rfl _ _ rfl w.heap.size u5 o.length _ rfl (own_below HO.out (by repeat (first | exact Below.refl _ _ | assumption | refine Below.drew ?_ | refine below_drewN ?_ _ | refine Below.setCell ?_ (by first | exact Nat.le_refl _ | exact Below.size (by assumption) | (simp; done) | (simp; omega) | omega) _ | refine Below.alloc ?_ (by first | exact Nat.le_refl _ | exact Below.size (by assumption) | (simp; done) | (simp; omega) | omega) _))) wr.heap.size (encD (delD p)) (heap_alloc_new _ _) rfl rfl (by simp [encD, delD, addD, chgD, Value.oneCell']) (by simp only [maxLen]; omega) (by omega) (by simp; omega) ?_; intro v3 w3 hp3; have hb3 := hp3.below (n := o.length) (xs := flat encD o) (own_below HO.out (by repeat (first | exact Below.refl _ _ | assumption | refine Below.drew ?_ | refine below_drewN ?_ _ | refine Below.setCell ?_ (by first | exact Nat.le_refl _ | exact Below.size (by assumption) | (simp; done) | (simp; omega) | omega) _ | refine Below.alloc ?_ (by first | exact Nat.le_refl _ | exact Below.size (by assumption) | (simp; done) | (simp; omega) | omega) _))) (below_after HB.out (by repeat (first | exact Below.refl _ _ | assumption | refine Below.drew ?_ | refine below_drewN ?_ _ | refine Below.setCell ?_ (by first | exact Nat.le_refl _ | exact Below.size (by assumption) | (simp; done) | (simp; omega) | omega) _ | refine Below.alloc ?_ (by first | exact Nat.le_refl _ | exact Below.size (by assumption) | (simp; done) | (simp; omega) | omega) _))) (by simp; omega))
          | fail)
      have HP3 := Lib.hid hp3.1
      clear hp3
      go_wp2_with fail
      go_roundw
      case rel =>
        refine ⟨i + 1, m.length, o ++ [delD p], by first | rfl | go_num, by first | rfl | go_num, by omega, by omega, ?_, by first | omega | (simp; omega), (by have h := HP3.out; rw [flat_append, List.length_append, flat_cons, flat_nil, List.append_nil]; exact own_below h (by repeat (first | exact Below.refl _ _ | assumption | refine Below.drew ?_ | refine below_drewN ?_ _ | refine Below.setCell ?_ (by first | exact Nat.le_refl _ | exact Below.size (by assumption) | (simp; done) | (simp; omega) | omega) _ | refine Below.alloc ?_ (by first | exact Nat.le_refl _ | exact Below.size (by assumption) | (simp; done) | (simp; omega) | omega) _))), hb3⟩
        rw [← HE.out, HDA.out, HDB.out, diffM_cn]; simp
      case measure => first | (simp [intOf]; done) | (simp [intOf]; omega)
    · obtain rfl : i = l.length := by omega
      have HDA : Hid (l.drop l.length = []) := List.drop_length
      have hi0 : ((l.length : Int) == (l.length : Int)) = true := by simp
      have hi1 : decide ((l.length : Int) < (l.length : Int)) = false := by simp
      clear hil
      obtain ⟨bd, rfl, hlb0, hq1w, hq2w⟩ := HY.out.pr hjl
      have hlb : (bd.add (j * 2)).block < w.heap.size := by rw [add_block]; exact hlb0
      have hdb := List.drop_eq_getElem_cons hjl
      have HYB := HY
      clear HY
      obtain ⟨q, hq⟩ : ∃ q, q = m[j] := ⟨_, rfl⟩
      rw [← hq] at hq1w hq2w hdb
      have hq1 := bel_cell HB.out hlb hq1w
      have hq2 := bel_cell1 HB.out hlb hq2w
      have HQW := Lib.hid (And.intro hq1w hq2w)
      have HDB := Lib.hid hdb
      have hj0 : ((j : Int) == (m.length : Int)) = false := by rw [beq_eq_false_iff_ne]; omega
      have hj1 : (j : Int) < (m.length : Int) := by omega
      clear hq1w hq2w hdb hq
      go_wp2_with fail
      go_quiet (fail)
      go_wp2_with fail
      go_quiet (fail)
      go_wp2_with fail
      go_region_held3 (fun w' => w'.cell? (bd.add (j * 2)) = some (.string q.1) ∧ w'.cell? ⟨(bd.add (j * 2)).block, (bd.add (j * 2)).off + 1, none⟩ = some (.string q.2))
        (refine ⟨?_, ?_⟩ <;> first | assumption | exact bel_cell hb3 hlb HQW.out.1 | exact bel_cell1 hb3 hlb HQW.out.2 | exact bel_cell (show Below wr.heap.size wr _ by repeat (first | exact Below.refl _ _ | assumption | refine Below.drew ?_ | refine below_drewN ?_ _ | refine Below.setCell ?_ (by first | exact Nat.le_refl _ | exact Below.size (by assumption) | (simp; done) | (simp; omega) | omega) _ | refine Below.alloc ?_ (by first | exact Nat.le_refl _ | exact Below.size (by assumption) | (simp; done) | (simp; omega) | omega) _)) (Nat.lt_of_lt_of_le hlb hsw) hq1 | exact bel_cell1 (show Below wr.heap.size wr _ by repeat (first | exact Below.refl _ _ | assumption | refine Below.drew ?_ | refine below_drewN ?_ _ | refine Below.setCell ?_ (by first | exact Nat.le_refl _ | exact Below.size (by assumption) | (simp; done) | (simp; omega) | omega) _ | refine Below.alloc ?_ (by first | exact Nat.le_refl _ | exact Below.size (by assumption) | (simp; done) | (simp; omega) | omega) _)) (Nat.lt_of_lt_of_le hlb hsw) hq2)
        (first
          | (refine step_push_one elDiff rfl _ _ rfl w.heap.size u5 o.length _ rfl (own_below HO.out (by repeat (first | exact Below.refl _ _ | assumption | refine Below.drew ?_ | refine below_drewN ?_ _ | refine Below.setCell ?_ (by first | exact Nat.le_refl _ | exact Below.size (by assumption) | (simp; done) | (simp; omega) | omega) _ | refine Below.alloc ?_ (by first | exact Nat.le_refl _ | exact Below.size (by assumption) | (simp; done) | (simp; omega) | omega) _))) wr.heap.size (encD (addD q)) (heap_alloc_new _ _) rfl rfl (by simp [encD, delD, addD, chgD, Value.oneCell']) (by simp only [maxLen]; omega) (by omega) (by simp; omega) ?_; intro v3 w3 hp3; have hb3 := hp3.below (n := o.length) (xs := flat encD o) (own_below HO.out (by repeat (first | exact Below.refl _ _ | assumption | refine Below.drew ?_ | refine below_drewN ?_ _ | refine Below.setCell ?_ (by first | exact Nat.le_refl _ | exact Below.size (by assumption) | (simp; done) | (simp; omega) | omega) _ | refine Below.alloc ?_ (by first | exact Nat.le_refl _ | exact Below.size (by assumption) | (simp; done) | (simp; omega) | omega) _))) (below_after HB.out (by repeat (first | exact Below.refl _ _ | assumption | refine Below.drew ?_ | refine below_drewN ?_ _ | refine Below.setCell ?_ (by first | exact Nat.le_refl _ | exact Below.size (by assumption) | (simp; done) | (simp; omega) | omega) _ | refine Below.alloc ?_ (by first | exact Nat.le_refl _ | exact Below.size (by assumption) | (simp; done) | (simp; omega) | omega) _))) (by simp; omega))
          | fail)
      have HP3 := Lib.hid hp3.1
      clear hp3
      go_wp2_with fail
      go_roundw
      case rel =>
        refine ⟨l.length, j + 1, o ++ [addD q], by first | rfl | go_num, by first | rfl | go_num, by omega, by omega, ?_, by first | omega | (simp; omega), (by have h := HP3.out; rw [flat_append, List.length_append, flat_cons, flat_nil, List.append_nil]; exact own_below h (by repeat (first | exact Below.refl _ _ | assumption | refine Below.drew ?_ | refine below_drewN ?_ _ | refine Below.setCell ?_ (by first | exact Nat.le_refl _ | exact Below.size (by assumption) | (simp; done) | (simp; omega) | omega) _ | refine Below.alloc ?_ (by first | exact Nat.le_refl _ | exact Below.size (by assumption) | (simp; done) | (simp; omega) | omega) _))), hb3⟩
        rw [← HE.out, HDA.out, HDB.out, diffM_nc]; simp
      case measure => first | (simp [intOf]; done) | (simp [intOf]; omega)
    · obtain rfl : i = l.length := by omega
      have HDA : Hid (l.drop l.length = []) := List.drop_length
      have hi0 : ((l.length : Int) == (l.length : Int)) = true := by simp
      have hi1 : decide ((l.length : Int) < (l.length : Int)) = false := by simp
      clear hil
      obtain rfl : j = m.length := by omega
      have HDB : Hid (m.drop m.length = []) := List.drop_length
      have hj0 : ((m.length : Int) == (m.length : Int)) = true := by simp
      have hj1 : decide ((m.length : Int) < (m.length : Int)) = false := by simp
      clear hjl
      go_wp2_with fail
      go_ret
      have e : o = diffM l m := by have h := HE.out; rw [HDA.out, HDB.out, diffM_nn, List.append_nil] at h; exact h
      rw [← e]
      exact ⟨_, rfl, HO.out, HB.out⟩
end Go.Proofs.Ytlfnpnkpjdmonaa
