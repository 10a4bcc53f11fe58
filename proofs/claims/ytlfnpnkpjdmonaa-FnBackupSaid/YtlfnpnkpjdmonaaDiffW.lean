import Derived.Test.YtlfnpnkpjdmonaaPairLawW
import Derived.Test.YtlfnpnkpjdmonaaDiffLaw
set_option linter.unusedVariables false
set_option linter.unusedSimpArgs false
namespace Go.Proofs.Ytlfnpnkpjdmonaa
open Go.RowKit

/-! ### differences as the program lays them -/
theorem infoDiff : (Try.prog.info? 145).map (fun i => (i.zero, i.size, i.bytes)) = some (some (.agg #[.string ⟨#[]⟩, .string ⟨#[]⟩, .string ⟨#[]⟩, .bool false, .bool false]), 5, 56) := by kernel_rfl
theorem elDiff : ElT Try.prog 69 145 5 56 := by
  obtain ⟨i, hi, hz, hs, hb⟩ := info_parts infoDiff
  exact ⟨i, _, Try.underlying69, hi, hz, hs, hb, rfl, by decide⟩
def MadeD (l : List Df) (w : World) (e : Ending) (w' : World) : Prop := ∃ v, e = .returned v ∧ w'.ownsRow w.heap.size 145 5 v l.length (flat encD l) ∧ Below w.heap.size w w'
theorem rd_head {w : World} {B : Nat} {A : Option Addr} {p : Pr} {l : List Pr} (h : Rd w B A (flat encP (p :: l))) : ∃ ad, A = some ad ∧ ad.block < B ∧ w.cell? ad = some (.string p.1) ∧ w.cell? ⟨ad.block, ad.off + 1, none⟩ = some (.string p.2) := by
  obtain ⟨ad, e, hb, h1, h2⟩ := h.pr (i := 0) (by simp)
  have e0 : ad.add (0 * 2) = ad := by simp [Addr.add]
  rw [e0] at h1 h2
  exact ⟨ad, e, hb, h1, h2⟩
theorem rd_tail {w : World} {B c : Nat} {ad : Addr} {p : Pr} {l : List Pr} (h : Rd w B (some ad) (flat encP (p :: l))) (hc : l.length + 1 ≤ c) : Rd w B (if c = 1 then some ad else some (ad.add 2)) (flat encP l) := by
  have h2 := h.cut 2 (c = 1) (fun e => by rw [flat_length encP_len, List.length_cons]; omega)
  have e : (flat encP (p :: l)).drop 2 = flat encP l := by rw [flat_cons]; rfl
  rw [e] at h2
  exact h2
set_option maxRecDepth 100000 in
set_option maxHeartbeats 4000000 in
theorem diffs_any (A B : Option Addr) (ca cb : Nat) (l m : List Pr) (w : World) (hx : Rd w w.heap.size A (flat encP l)) (hy : Rd w w.heap.size B (flat encP m)) (hl : l.length ≤ 4096) (hm : m.length ≤ 4096) (hca : l.length ≤ ca) (hcb : m.length ≤ cb) :
    Calls Try.prog 129 #[.slice A l.length ca, .slice B m.length cb] w (MadeD (diffM l m) w) := by
  have HX := Lib.hid hx
  have HY := Lib.hid hy
  have H0 : Hid ((w.alloc (.cells #[] 145)).ownsRow w.heap.size 145 5 (.slice (some ⟨w.heap.size, 0, none⟩) 0 0) 0 []) := own_empty_at (Nat.le_refl _) (heap_alloc_new _ _)
  clear hx hy
  go_enter Try.func129, Try.ntmps129
  go_wp2_with fail
  go_loopw [0, 1, 5] (fun x y v wr => ∃ (a b : List Pr) (o : List Df) (A B : Option Addr) (ca cb : Nat), x = .slice A a.length ca ∧ y = .slice B b.length cb ∧ o ++ diffM a b = diffM l m ∧ a.length ≤ ca ∧ b.length ≤ cb ∧ o.length + a.length + b.length ≤ 8192 ∧ Rd w w.heap.size A (flat encP a) ∧ Rd w w.heap.size B (flat encP b) ∧ wr.ownsRow w.heap.size 145 5 v o.length (flat encD o) ∧ Below w.heap.size w wr) (fun x y _ _ => match x, y with | .slice _ n _, .slice _ m _ => n + m | _, _ => 0)
  case atStart => exact ⟨l, m, [], A, B, ca, cb, rfl, rfl, rfl, hca, hcb, by simp; omega, HX.out, HY.out, H0.out, by repeat (first | exact Below.refl _ _ | assumption | refine Below.drew ?_ | refine below_drewN ?_ _ | refine Below.setCell ?_ (by first | exact Nat.le_refl _ | exact Below.size (by assumption) | (simp; done) | (simp; omega) | omega) _ | refine Below.alloc ?_ (by first | exact Nat.le_refl _ | exact Below.size (by assumption) | (simp; done) | (simp; omega) | omega) _)⟩
  case round =>
    obtain ⟨a, b, o, A', B', ca', cb', rfl, rfl, heq, hca', hcb', hlen, hxa, hyb, ho, hb⟩ := hrel
    have HE := Lib.hid heq
    have HO := Lib.hid ho
    have HB := Lib.hid hb
    have hsw := hb.size
    clear heq ho hb HX HY H0
    rcases a with _ | ⟨p, a⟩ <;> rcases b with _ | ⟨q, b⟩
    · go_wp2_with fail
      go_ret
      have e : o = diffM l m := by have h := HE.out; rw [diffM_nn, List.append_nil] at h; exact h
      rw [← e]
      exact ⟨_, rfl, HO.out, HB.out⟩
    · have HXA := Lib.hid hxa
      clear hxa
      obtain ⟨bd, rfl, hlb, hq1w, hq2w⟩ := rd_head hyb
      simp only [List.length_cons] at hcb' hlen
      have HTB := Lib.hid (rd_tail hyb hcb')
      have hb0 : ((b.length : Int) + 1 == 0) = false := by rw [beq_eq_false_iff_ne]; omega
      have hb1 : decide ((0 : Int) < (b.length : Int) + 1) = true := decide_eq_true (by omega)
      have hq1 := (HB.out.cell hlb).trans hq1w
      have hq2 := (HB.out.cell (p := ⟨bd.block, bd.off + 1, none⟩) hlb).trans hq2w
      have HQW := Lib.hid (And.intro hq1w hq2w)
      have HYB := Lib.hid hyb
      clear hyb hq1w hq2w
      by_cases hcb : cb' = 1
      · rw [if_pos hcb] at HTB
        subst hcb
        obtain rfl : b = [] := List.eq_nil_of_length_eq_zero (by omega)
        go_wp2_with fail
        go_quiet (fail)
        go_wp2_with fail
        go_quiet (fail)
        go_wp2_with fail
        go_region_held3 (fun w' => w'.cell? bd = some (.string q.1) ∧ w'.cell? ⟨bd.block, bd.off + 1, none⟩ = some (.string q.2))
          (refine ⟨?_, ?_⟩ <;> first | assumption | exact (hb3.cell hlb).trans HQW.out.1 | exact (hb3.cell (p := ⟨bd.block, bd.off + 1, none⟩) hlb).trans HQW.out.2 | exact (Below.cell (B := wr.heap.size) (by repeat (first | exact Below.refl _ _ | assumption | refine Below.drew ?_ | refine below_drewN ?_ _ | refine Below.setCell ?_ (by first | exact Nat.le_refl _ | exact Below.size (by assumption) | (simp; done) | (simp; omega) | omega) _ | refine Below.alloc ?_ (by first | exact Nat.le_refl _ | exact Below.size (by assumption) | (simp; done) | (simp; omega) | omega) _)) (show bd.block < wr.heap.size by omega)).trans hq1 | exact (Below.cell (B := wr.heap.size) (p := ⟨bd.block, bd.off + 1, none⟩) (by repeat (first | exact Below.refl _ _ | assumption | refine Below.drew ?_ | refine below_drewN ?_ _ | refine Below.setCell ?_ (by first | exact Nat.le_refl _ | exact Below.size (by assumption) | (simp; done) | (simp; omega) | omega) _ | refine Below.alloc ?_ (by first | exact Nat.le_refl _ | exact Below.size (by assumption) | (simp; done) | (simp; omega) | omega) _)) (show bd.block < wr.heap.size by omega)).trans hq2)
          (first
            | (refine step_push_one elDiff rfl _ _ rfl w.heap.size u5 o.length _ rfl (own_below HO.out (by repeat (first | exact Below.refl _ _ | assumption | refine Below.drew ?_ | refine below_drewN ?_ _ | refine Below.setCell ?_ (by first | exact Nat.le_refl _ | exact Below.size (by assumption) | (simp; done) | (simp; omega) | omega) _ | refine Below.alloc ?_ (by first | exact Nat.le_refl _ | exact Below.size (by assumption) | (simp; done) | (simp; omega) | omega) _))) wr.heap.size (encD (addD q)) (heap_alloc_new _ _) rfl rfl (by simp [encD, delD, addD, chgD, Value.oneCell']) (by simp only [maxLen]; omega) (by omega) (by simp; omega) ?_; intro v3 w3 hp3; have hb3 := hp3.below (n := o.length) (xs := flat encD o) (own_below HO.out (by repeat (first | exact Below.refl _ _ | assumption | refine Below.drew ?_ | refine below_drewN ?_ _ | refine Below.setCell ?_ (by first | exact Nat.le_refl _ | exact Below.size (by assumption) | (simp; done) | (simp; omega) | omega) _ | refine Below.alloc ?_ (by first | exact Nat.le_refl _ | exact Below.size (by assumption) | (simp; done) | (simp; omega) | omega) _))) (below_after HB.out (by repeat (first | exact Below.refl _ _ | assumption | refine Below.drew ?_ | refine below_drewN ?_ _ | refine Below.setCell ?_ (by first | exact Nat.le_refl _ | exact Below.size (by assumption) | (simp; done) | (simp; omega) | omega) _ | refine Below.alloc ?_ (by first | exact Nat.le_refl _ | exact Below.size (by assumption) | (simp; done) | (simp; omega) | omega) _))) (by simp; omega))
            | fail)
        have HP3 := Lib.hid hp3.1
        clear hp3
        go_wp2_with fail
        go_roundw
        case rel =>
          refine ⟨[], [], o ++ [addD q], _, _, _, _, rfl, rfl, ?_, by first | omega | (simp; done), by first | omega | (simp; done), by first | omega | (simp; omega), HXA.out, HTB.out, (by have h := HP3.out; rw [flat_append, List.length_append, flat_cons, flat_nil, List.append_nil]; exact own_below h (by repeat (first | exact Below.refl _ _ | assumption | refine Below.drew ?_ | refine below_drewN ?_ _ | refine Below.setCell ?_ (by first | exact Nat.le_refl _ | exact Below.size (by assumption) | (simp; done) | (simp; omega) | omega) _ | refine Below.alloc ?_ (by first | exact Nat.le_refl _ | exact Below.size (by assumption) | (simp; done) | (simp; omega) | omega) _))), hb3⟩
          rw [← HE.out, diffM_nc]; simp
        case measure => first | (simp; done) | (simp; omega)
      · rw [if_neg hcb] at HTB
        go_wp2_with fail
        go_quiet (fail)
        go_wp2_with fail
        go_quiet (fail)
        go_wp2_with fail
        go_region_held3 (fun w' => w'.cell? bd = some (.string q.1) ∧ w'.cell? ⟨bd.block, bd.off + 1, none⟩ = some (.string q.2))
          (refine ⟨?_, ?_⟩ <;> first | assumption | exact (hb3.cell hlb).trans HQW.out.1 | exact (hb3.cell (p := ⟨bd.block, bd.off + 1, none⟩) hlb).trans HQW.out.2 | exact (Below.cell (B := wr.heap.size) (by repeat (first | exact Below.refl _ _ | assumption | refine Below.drew ?_ | refine below_drewN ?_ _ | refine Below.setCell ?_ (by first | exact Nat.le_refl _ | exact Below.size (by assumption) | (simp; done) | (simp; omega) | omega) _ | refine Below.alloc ?_ (by first | exact Nat.le_refl _ | exact Below.size (by assumption) | (simp; done) | (simp; omega) | omega) _)) (show bd.block < wr.heap.size by omega)).trans hq1 | exact (Below.cell (B := wr.heap.size) (p := ⟨bd.block, bd.off + 1, none⟩) (by repeat (first | exact Below.refl _ _ | assumption | refine Below.drew ?_ | refine below_drewN ?_ _ | refine Below.setCell ?_ (by first | exact Nat.le_refl _ | exact Below.size (by assumption) | (simp; done) | (simp; omega) | omega) _ | refine Below.alloc ?_ (by first | exact Nat.le_refl _ | exact Below.size (by assumption) | (simp; done) | (simp; omega) | omega) _)) (show bd.block < wr.heap.size by omega)).trans hq2)
          (first
            | (refine step_push_one elDiff rfl _ _ rfl w.heap.size u5 o.length _ rfl (own_below HO.out (by repeat (first | exact Below.refl _ _ | assumption | refine Below.drew ?_ | refine below_drewN ?_ _ | refine Below.setCell ?_ (by first | exact Nat.le_refl _ | exact Below.size (by assumption) | (simp; done) | (simp; omega) | omega) _ | refine Below.alloc ?_ (by first | exact Nat.le_refl _ | exact Below.size (by assumption) | (simp; done) | (simp; omega) | omega) _))) wr.heap.size (encD (addD q)) (heap_alloc_new _ _) rfl rfl (by simp [encD, delD, addD, chgD, Value.oneCell']) (by simp only [maxLen]; omega) (by omega) (by simp; omega) ?_; intro v3 w3 hp3; have hb3 := hp3.below (n := o.length) (xs := flat encD o) (own_below HO.out (by repeat (first | exact Below.refl _ _ | assumption | refine Below.drew ?_ | refine below_drewN ?_ _ | refine Below.setCell ?_ (by first | exact Nat.le_refl _ | exact Below.size (by assumption) | (simp; done) | (simp; omega) | omega) _ | refine Below.alloc ?_ (by first | exact Nat.le_refl _ | exact Below.size (by assumption) | (simp; done) | (simp; omega) | omega) _))) (below_after HB.out (by repeat (first | exact Below.refl _ _ | assumption | refine Below.drew ?_ | refine below_drewN ?_ _ | refine Below.setCell ?_ (by first | exact Nat.le_refl _ | exact Below.size (by assumption) | (simp; done) | (simp; omega) | omega) _ | refine Below.alloc ?_ (by first | exact Nat.le_refl _ | exact Below.size (by assumption) | (simp; done) | (simp; omega) | omega) _))) (by simp; omega))
            | fail)
        have HP3 := Lib.hid hp3.1
        clear hp3
        go_wp2_with fail
        go_roundw
        case rel =>
          refine ⟨[], b, o ++ [addD q], _, _, _, _, rfl, rfl, ?_, by first | omega | (simp; done), by first | omega | (simp; done), by first | omega | (simp; omega), HXA.out, HTB.out, (by have h := HP3.out; rw [flat_append, List.length_append, flat_cons, flat_nil, List.append_nil]; exact own_below h (by repeat (first | exact Below.refl _ _ | assumption | refine Below.drew ?_ | refine below_drewN ?_ _ | refine Below.setCell ?_ (by first | exact Nat.le_refl _ | exact Below.size (by assumption) | (simp; done) | (simp; omega) | omega) _ | refine Below.alloc ?_ (by first | exact Nat.le_refl _ | exact Below.size (by assumption) | (simp; done) | (simp; omega) | omega) _))), hb3⟩
          rw [← HE.out, diffM_nc]; simp
        case measure => first | (simp; done) | (simp; omega)
    · have HYB := Lib.hid hyb
      clear hyb
      obtain ⟨ad, rfl, hla, hp1w, hp2w⟩ := rd_head hxa
      simp only [List.length_cons] at hca' hlen
      have HTA := Lib.hid (rd_tail hxa hca')
      have ha0 : ((a.length : Int) + 1 == 0) = false := by rw [beq_eq_false_iff_ne]; omega
      have ha1 : decide ((0 : Int) < (a.length : Int) + 1) = true := decide_eq_true (by omega)
      have hp1 := (HB.out.cell hla).trans hp1w
      have hp2 := (HB.out.cell (p := ⟨ad.block, ad.off + 1, none⟩) hla).trans hp2w
      have HPW := Lib.hid (And.intro hp1w hp2w)
      have HXA := Lib.hid hxa
      clear hxa hp1w hp2w
      by_cases hca : ca' = 1
      · rw [if_pos hca] at HTA
        subst hca
        obtain rfl : a = [] := List.eq_nil_of_length_eq_zero (by omega)
        go_wp2_with fail
        go_quiet (fail)
        go_wp2_with fail
        go_region_held3 (fun w' => w'.cell? ad = some (.string p.1) ∧ w'.cell? ⟨ad.block, ad.off + 1, none⟩ = some (.string p.2))
          (refine ⟨?_, ?_⟩ <;> first | assumption | exact (hb3.cell hla).trans HPW.out.1 | exact (hb3.cell (p := ⟨ad.block, ad.off + 1, none⟩) hla).trans HPW.out.2 | exact (Below.cell (B := wr.heap.size) (by repeat (first | exact Below.refl _ _ | assumption | refine Below.drew ?_ | refine below_drewN ?_ _ | refine Below.setCell ?_ (by first | exact Nat.le_refl _ | exact Below.size (by assumption) | (simp; done) | (simp; omega) | omega) _ | refine Below.alloc ?_ (by first | exact Nat.le_refl _ | exact Below.size (by assumption) | (simp; done) | (simp; omega) | omega) _)) (show ad.block < wr.heap.size by omega)).trans hp1 | exact (Below.cell (B := wr.heap.size) (p := ⟨ad.block, ad.off + 1, none⟩) (by repeat (first | exact Below.refl _ _ | assumption | refine Below.drew ?_ | refine below_drewN ?_ _ | refine Below.setCell ?_ (by first | exact Nat.le_refl _ | exact Below.size (by assumption) | (simp; done) | (simp; omega) | omega) _ | refine Below.alloc ?_ (by first | exact Nat.le_refl _ | exact Below.size (by assumption) | (simp; done) | (simp; omega) | omega) _)) (show ad.block < wr.heap.size by omega)).trans hp2)
          (first
            | (refine step_push_one elDiff rfl _ _ rfl w.heap.size u5 o.length _ rfl (own_below HO.out (by repeat (first | exact Below.refl _ _ | assumption | refine Below.drew ?_ | refine below_drewN ?_ _ | refine Below.setCell ?_ (by first | exact Nat.le_refl _ | exact Below.size (by assumption) | (simp; done) | (simp; omega) | omega) _ | refine Below.alloc ?_ (by first | exact Nat.le_refl _ | exact Below.size (by assumption) | (simp; done) | (simp; omega) | omega) _))) wr.heap.size (encD (delD p)) (heap_alloc_new _ _) rfl rfl (by simp [encD, delD, addD, chgD, Value.oneCell']) (by simp only [maxLen]; omega) (by omega) (by simp; omega) ?_; intro v3 w3 hp3; have hb3 := hp3.below (n := o.length) (xs := flat encD o) (own_below HO.out (by repeat (first | exact Below.refl _ _ | assumption | refine Below.drew ?_ | refine below_drewN ?_ _ | refine Below.setCell ?_ (by first | exact Nat.le_refl _ | exact Below.size (by assumption) | (simp; done) | (simp; omega) | omega) _ | refine Below.alloc ?_ (by first | exact Nat.le_refl _ | exact Below.size (by assumption) | (simp; done) | (simp; omega) | omega) _))) (below_after HB.out (by repeat (first | exact Below.refl _ _ | assumption | refine Below.drew ?_ | refine below_drewN ?_ _ | refine Below.setCell ?_ (by first | exact Nat.le_refl _ | exact Below.size (by assumption) | (simp; done) | (simp; omega) | omega) _ | refine Below.alloc ?_ (by first | exact Nat.le_refl _ | exact Below.size (by assumption) | (simp; done) | (simp; omega) | omega) _))) (by simp; omega))
            | fail)
        have HP3 := Lib.hid hp3.1
        clear hp3
        go_wp2_with fail
        go_roundw
        case rel =>
          refine ⟨[], [], o ++ [delD p], _, _, _, _, rfl, rfl, ?_, by first | omega | (simp; done), by first | omega | (simp; done), by first | omega | (simp; omega), HTA.out, HYB.out, (by have h := HP3.out; rw [flat_append, List.length_append, flat_cons, flat_nil, List.append_nil]; exact own_below h (by repeat (first | exact Below.refl _ _ | assumption | refine Below.drew ?_ | refine below_drewN ?_ _ | refine Below.setCell ?_ (by first | exact Nat.le_refl _ | exact Below.size (by assumption) | (simp; done) | (simp; omega) | omega) _ | refine Below.alloc ?_ (by first | exact Nat.le_refl _ | exact Below.size (by assumption) | (simp; done) | (simp; omega) | omega) _))), hb3⟩
          rw [← HE.out, diffM_cn]; simp
        case measure => first | (simp; done) | (simp; omega)
      · rw [if_neg hca] at HTA
        go_wp2_with fail
        go_quiet (fail)
        go_wp2_with fail
        go_region_held3 (fun w' => w'.cell? ad = some (.string p.1) ∧ w'.cell? ⟨ad.block, ad.off + 1, none⟩ = some (.string p.2))
          (refine ⟨?_, ?_⟩ <;> first | assumption | exact (hb3.cell hla).trans HPW.out.1 | exact (hb3.cell (p := ⟨ad.block, ad.off + 1, none⟩) hla).trans HPW.out.2 | exact (Below.cell (B := wr.heap.size) (by repeat (first | exact Below.refl _ _ | assumption | refine Below.drew ?_ | refine below_drewN ?_ _ | refine Below.setCell ?_ (by first | exact Nat.le_refl _ | exact Below.size (by assumption) | (simp; done) | (simp; omega) | omega) _ | refine Below.alloc ?_ (by first | exact Nat.le_refl _ | exact Below.size (by assumption) | (simp; done) | (simp; omega) | omega) _)) (show ad.block < wr.heap.size by omega)).trans hp1 | exact (Below.cell (B := wr.heap.size) (p := ⟨ad.block, ad.off + 1, none⟩) (by repeat (first | exact Below.refl _ _ | assumption | refine Below.drew ?_ | refine below_drewN ?_ _ | refine Below.setCell ?_ (by first | exact Nat.le_refl _ | exact Below.size (by assumption) | (simp; done) | (simp; omega) | omega) _ | refine Below.alloc ?_ (by first | exact Nat.le_refl _ | exact Below.size (by assumption) | (simp; done) | (simp; omega) | omega) _)) (show ad.block < wr.heap.size by omega)).trans hp2)
          (first
            | (refine step_push_one elDiff rfl _ _ rfl w.heap.size u5 o.length _ rfl (own_below HO.out (by repeat (first | exact Below.refl _ _ | assumption | refine Below.drew ?_ | refine below_drewN ?_ _ | refine Below.setCell ?_ (by first | exact Nat.le_refl _ | exact Below.size (by assumption) | (simp; done) | (simp; omega) | omega) _ | refine Below.alloc ?_ (by first | exact Nat.le_refl _ | exact Below.size (by assumption) | (simp; done) | (simp; omega) | omega) _))) wr.heap.size (encD (delD p)) (heap_alloc_new _ _) rfl rfl (by simp [encD, delD, addD, chgD, Value.oneCell']) (by simp only [maxLen]; omega) (by omega) (by simp; omega) ?_; intro v3 w3 hp3; have hb3 := hp3.below (n := o.length) (xs := flat encD o) (own_below HO.out (by repeat (first | exact Below.refl _ _ | assumption | refine Below.drew ?_ | refine below_drewN ?_ _ | refine Below.setCell ?_ (by first | exact Nat.le_refl _ | exact Below.size (by assumption) | (simp; done) | (simp; omega) | omega) _ | refine Below.alloc ?_ (by first | exact Nat.le_refl _ | exact Below.size (by assumption) | (simp; done) | (simp; omega) | omega) _))) (below_after HB.out (by repeat (first | exact Below.refl _ _ | assumption | refine Below.drew ?_ | refine below_drewN ?_ _ | refine Below.setCell ?_ (by first | exact Nat.le_refl _ | exact Below.size (by assumption) | (simp; done) | (simp; omega) | omega) _ | refine Below.alloc ?_ (by first | exact Nat.le_refl _ | exact Below.size (by assumption) | (simp; done) | (simp; omega) | omega) _))) (by simp; omega))
            | fail)
        have HP3 := Lib.hid hp3.1
        clear hp3
        go_wp2_with fail
        go_roundw
        case rel =>
          refine ⟨a, [], o ++ [delD p], _, _, _, _, rfl, rfl, ?_, by first | omega | (simp; done), by first | omega | (simp; done), by first | omega | (simp; omega), HTA.out, HYB.out, (by have h := HP3.out; rw [flat_append, List.length_append, flat_cons, flat_nil, List.append_nil]; exact own_below h (by repeat (first | exact Below.refl _ _ | assumption | refine Below.drew ?_ | refine below_drewN ?_ _ | refine Below.setCell ?_ (by first | exact Nat.le_refl _ | exact Below.size (by assumption) | (simp; done) | (simp; omega) | omega) _ | refine Below.alloc ?_ (by first | exact Nat.le_refl _ | exact Below.size (by assumption) | (simp; done) | (simp; omega) | omega) _))), hb3⟩
          rw [← HE.out, diffM_cn]; simp
        case measure => first | (simp; done) | (simp; omega)
    · obtain ⟨ad, rfl, hla, hp1w, hp2w⟩ := rd_head hxa
      simp only [List.length_cons] at hca' hlen
      have HTA := Lib.hid (rd_tail hxa hca')
      have ha0 : ((a.length : Int) + 1 == 0) = false := by rw [beq_eq_false_iff_ne]; omega
      have ha1 : decide ((0 : Int) < (a.length : Int) + 1) = true := decide_eq_true (by omega)
      have hp1 := (HB.out.cell hla).trans hp1w
      have hp2 := (HB.out.cell (p := ⟨ad.block, ad.off + 1, none⟩) hla).trans hp2w
      have HPW := Lib.hid (And.intro hp1w hp2w)
      have HXA := Lib.hid hxa
      clear hxa hp1w hp2w
      obtain ⟨bd, rfl, hlb, hq1w, hq2w⟩ := rd_head hyb
      simp only [List.length_cons] at hcb' hlen
      have HTB := Lib.hid (rd_tail hyb hcb')
      have hb0 : ((b.length : Int) + 1 == 0) = false := by rw [beq_eq_false_iff_ne]; omega
      have hb1 : decide ((0 : Int) < (b.length : Int) + 1) = true := decide_eq_true (by omega)
      have hq1 := (HB.out.cell hlb).trans hq1w
      have hq2 := (HB.out.cell (p := ⟨bd.block, bd.off + 1, none⟩) hlb).trans hq2w
      have HQW := Lib.hid (And.intro hq1w hq2w)
      have HYB := Lib.hid hyb
      clear hyb hq1w hq2w
      cases hlt : lt p.1 q.1 with
      | true =>
        have hlt1 : Op.bytesLess p.1.toList q.1.toList = true := hlt
        have HLT := Lib.hid hlt
        clear hlt
        by_cases hca : ca' = 1
        · rw [if_pos hca] at HTA
          subst hca
          obtain rfl : a = [] := List.eq_nil_of_length_eq_zero (by omega)
          go_wp2_with fail
          go_quiet (fail)
          go_wp2_with fail
          go_region_held3 (fun w' => w'.cell? ad = some (.string p.1) ∧ w'.cell? ⟨ad.block, ad.off + 1, none⟩ = some (.string p.2))
            (refine ⟨?_, ?_⟩ <;> first | assumption | exact (hb3.cell hla).trans HPW.out.1 | exact (hb3.cell (p := ⟨ad.block, ad.off + 1, none⟩) hla).trans HPW.out.2 | exact (Below.cell (B := wr.heap.size) (by repeat (first | exact Below.refl _ _ | assumption | refine Below.drew ?_ | refine below_drewN ?_ _ | refine Below.setCell ?_ (by first | exact Nat.le_refl _ | exact Below.size (by assumption) | (simp; done) | (simp; omega) | omega) _ | refine Below.alloc ?_ (by first | exact Nat.le_refl _ | exact Below.size (by assumption) | (simp; done) | (simp; omega) | omega) _)) (show ad.block < wr.heap.size by omega)).trans hp1 | exact (Below.cell (B := wr.heap.size) (p := ⟨ad.block, ad.off + 1, none⟩) (by repeat (first | exact Below.refl _ _ | assumption | refine Below.drew ?_ | refine below_drewN ?_ _ | refine Below.setCell ?_ (by first | exact Nat.le_refl _ | exact Below.size (by assumption) | (simp; done) | (simp; omega) | omega) _ | refine Below.alloc ?_ (by first | exact Nat.le_refl _ | exact Below.size (by assumption) | (simp; done) | (simp; omega) | omega) _)) (show ad.block < wr.heap.size by omega)).trans hp2)
            (first
              | (refine step_push_one elDiff rfl _ _ rfl w.heap.size u5 o.length _ rfl (own_below HO.out (by repeat (first | exact Below.refl _ _ | assumption | refine Below.drew ?_ | refine below_drewN ?_ _ | refine Below.setCell ?_ (by first | exact Nat.le_refl _ | exact Below.size (by assumption) | (simp; done) | (simp; omega) | omega) _ | refine Below.alloc ?_ (by first | exact Nat.le_refl _ | exact Below.size (by assumption) | (simp; done) | (simp; omega) | omega) _))) wr.heap.size (encD (delD p)) (heap_alloc_new _ _) rfl rfl (by simp [encD, delD, addD, chgD, Value.oneCell']) (by simp only [maxLen]; omega) (by omega) (by simp; omega) ?_; intro v3 w3 hp3; have hb3 := hp3.below (n := o.length) (xs := flat encD o) (own_below HO.out (by repeat (first | exact Below.refl _ _ | assumption | refine Below.drew ?_ | refine below_drewN ?_ _ | refine Below.setCell ?_ (by first | exact Nat.le_refl _ | exact Below.size (by assumption) | (simp; done) | (simp; omega) | omega) _ | refine Below.alloc ?_ (by first | exact Nat.le_refl _ | exact Below.size (by assumption) | (simp; done) | (simp; omega) | omega) _))) (below_after HB.out (by repeat (first | exact Below.refl _ _ | assumption | refine Below.drew ?_ | refine below_drewN ?_ _ | refine Below.setCell ?_ (by first | exact Nat.le_refl _ | exact Below.size (by assumption) | (simp; done) | (simp; omega) | omega) _ | refine Below.alloc ?_ (by first | exact Nat.le_refl _ | exact Below.size (by assumption) | (simp; done) | (simp; omega) | omega) _))) (by simp; omega))
              | fail)
          have HP3 := Lib.hid hp3.1
          clear hp3
          go_wp2_with fail
          go_roundw
          case rel =>
            refine ⟨[], (q :: b), o ++ [delD p], _, _, _, _, rfl, rfl, ?_, by first | omega | (simp; done), by first | omega | (simp; done), by first | omega | (simp; omega), HTA.out, HYB.out, (by have h := HP3.out; rw [flat_append, List.length_append, flat_cons, flat_nil, List.append_nil]; exact own_below h (by repeat (first | exact Below.refl _ _ | assumption | refine Below.drew ?_ | refine below_drewN ?_ _ | refine Below.setCell ?_ (by first | exact Nat.le_refl _ | exact Below.size (by assumption) | (simp; done) | (simp; omega) | omega) _ | refine Below.alloc ?_ (by first | exact Nat.le_refl _ | exact Below.size (by assumption) | (simp; done) | (simp; omega) | omega) _))), hb3⟩
            rw [← HE.out, diffM_lt _ _ HLT.out]; simp
          case measure => first | (simp; done) | (simp; omega)
        · rw [if_neg hca] at HTA
          go_wp2_with fail
          go_quiet (fail)
          go_wp2_with fail
          go_region_held3 (fun w' => w'.cell? ad = some (.string p.1) ∧ w'.cell? ⟨ad.block, ad.off + 1, none⟩ = some (.string p.2))
            (refine ⟨?_, ?_⟩ <;> first | assumption | exact (hb3.cell hla).trans HPW.out.1 | exact (hb3.cell (p := ⟨ad.block, ad.off + 1, none⟩) hla).trans HPW.out.2 | exact (Below.cell (B := wr.heap.size) (by repeat (first | exact Below.refl _ _ | assumption | refine Below.drew ?_ | refine below_drewN ?_ _ | refine Below.setCell ?_ (by first | exact Nat.le_refl _ | exact Below.size (by assumption) | (simp; done) | (simp; omega) | omega) _ | refine Below.alloc ?_ (by first | exact Nat.le_refl _ | exact Below.size (by assumption) | (simp; done) | (simp; omega) | omega) _)) (show ad.block < wr.heap.size by omega)).trans hp1 | exact (Below.cell (B := wr.heap.size) (p := ⟨ad.block, ad.off + 1, none⟩) (by repeat (first | exact Below.refl _ _ | assumption | refine Below.drew ?_ | refine below_drewN ?_ _ | refine Below.setCell ?_ (by first | exact Nat.le_refl _ | exact Below.size (by assumption) | (simp; done) | (simp; omega) | omega) _ | refine Below.alloc ?_ (by first | exact Nat.le_refl _ | exact Below.size (by assumption) | (simp; done) | (simp; omega) | omega) _)) (show ad.block < wr.heap.size by omega)).trans hp2)
            (first
              | (refine step_push_one elDiff rfl _ _ rfl w.heap.size u5 o.length _ rfl (own_below HO.out (by repeat (first | exact Below.refl _ _ | assumption | refine Below.drew ?_ | refine below_drewN ?_ _ | refine Below.setCell ?_ (by first | exact Nat.le_refl _ | exact Below.size (by assumption) | (simp; done) | (simp; omega) | omega) _ | refine Below.alloc ?_ (by first | exact Nat.le_refl _ | exact Below.size (by assumption) | (simp; done) | (simp; omega) | omega) _))) wr.heap.size (encD (delD p)) (heap_alloc_new _ _) rfl rfl (by simp [encD, delD, addD, chgD, Value.oneCell']) (by simp only [maxLen]; omega) (by omega) (by simp; omega) ?_; intro v3 w3 hp3; have hb3 := hp3.below (n := o.length) (xs := flat encD o) (own_below HO.out (by repeat (first | exact Below.refl _ _ | assumption | refine Below.drew ?_ | refine below_drewN ?_ _ | refine Below.setCell ?_ (by first | exact Nat.le_refl _ | exact Below.size (by assumption) | (simp; done) | (simp; omega) | omega) _ | refine Below.alloc ?_ (by first | exact Nat.le_refl _ | exact Below.size (by assumption) | (simp; done) | (simp; omega) | omega) _))) (below_after HB.out (by repeat (first | exact Below.refl _ _ | assumption | refine Below.drew ?_ | refine below_drewN ?_ _ | refine Below.setCell ?_ (by first | exact Nat.le_refl _ | exact Below.size (by assumption) | (simp; done) | (simp; omega) | omega) _ | refine Below.alloc ?_ (by first | exact Nat.le_refl _ | exact Below.size (by assumption) | (simp; done) | (simp; omega) | omega) _))) (by simp; omega))
              | fail)
          have HP3 := Lib.hid hp3.1
          clear hp3
          go_wp2_with fail
          go_roundw
          case rel =>
            refine ⟨a, (q :: b), o ++ [delD p], _, _, _, _, rfl, rfl, ?_, by first | omega | (simp; done), by first | omega | (simp; done), by first | omega | (simp; omega), HTA.out, HYB.out, (by have h := HP3.out; rw [flat_append, List.length_append, flat_cons, flat_nil, List.append_nil]; exact own_below h (by repeat (first | exact Below.refl _ _ | assumption | refine Below.drew ?_ | refine below_drewN ?_ _ | refine Below.setCell ?_ (by first | exact Nat.le_refl _ | exact Below.size (by assumption) | (simp; done) | (simp; omega) | omega) _ | refine Below.alloc ?_ (by first | exact Nat.le_refl _ | exact Below.size (by assumption) | (simp; done) | (simp; omega) | omega) _))), hb3⟩
            rw [← HE.out, diffM_lt _ _ HLT.out]; simp
          case measure => first | (simp; done) | (simp; omega)
      | false =>
        have hlt1 : Op.bytesLess p.1.toList q.1.toList = false := hlt
        cases hgt : lt q.1 p.1 with
        | true =>
          have hgt1 : Op.bytesLess q.1.toList p.1.toList = true := hgt
          have HLT := Lib.hid hgt
          clear hlt hgt
          by_cases hcb : cb' = 1
          · rw [if_pos hcb] at HTB
            subst hcb
            obtain rfl : b = [] := List.eq_nil_of_length_eq_zero (by omega)
            go_wp2_with fail
            go_quiet (fail)
            go_wp2_with fail
            go_quiet (fail)
            go_wp2_with fail
            go_region_held3 (fun w' => w'.cell? bd = some (.string q.1) ∧ w'.cell? ⟨bd.block, bd.off + 1, none⟩ = some (.string q.2))
              (refine ⟨?_, ?_⟩ <;> first | assumption | exact (hb3.cell hlb).trans HQW.out.1 | exact (hb3.cell (p := ⟨bd.block, bd.off + 1, none⟩) hlb).trans HQW.out.2 | exact (Below.cell (B := wr.heap.size) (by repeat (first | exact Below.refl _ _ | assumption | refine Below.drew ?_ | refine below_drewN ?_ _ | refine Below.setCell ?_ (by first | exact Nat.le_refl _ | exact Below.size (by assumption) | (simp; done) | (simp; omega) | omega) _ | refine Below.alloc ?_ (by first | exact Nat.le_refl _ | exact Below.size (by assumption) | (simp; done) | (simp; omega) | omega) _)) (show bd.block < wr.heap.size by omega)).trans hq1 | exact (Below.cell (B := wr.heap.size) (p := ⟨bd.block, bd.off + 1, none⟩) (by repeat (first | exact Below.refl _ _ | assumption | refine Below.drew ?_ | refine below_drewN ?_ _ | refine Below.setCell ?_ (by first | exact Nat.le_refl _ | exact Below.size (by assumption) | (simp; done) | (simp; omega) | omega) _ | refine Below.alloc ?_ (by first | exact Nat.le_refl _ | exact Below.size (by assumption) | (simp; done) | (simp; omega) | omega) _)) (show bd.block < wr.heap.size by omega)).trans hq2)
              (first
                | (refine step_push_one elDiff rfl _ _ rfl w.heap.size u5 o.length _ rfl (own_below HO.out (by repeat (first | exact Below.refl _ _ | assumption | refine Below.drew ?_ | refine below_drewN ?_ _ | refine Below.setCell ?_ (by first | exact Nat.le_refl _ | exact Below.size (by assumption) | (simp; done) | (simp; omega) | omega) _ | refine Below.alloc ?_ (by first | exact Nat.le_refl _ | exact Below.size (by assumption) | (simp; done) | (simp; omega) | omega) _))) wr.heap.size (encD (addD q)) (heap_alloc_new _ _) rfl rfl (by simp [encD, delD, addD, chgD, Value.oneCell']) (by simp only [maxLen]; omega) (by omega) (by simp; omega) ?_; intro v3 w3 hp3; have hb3 := hp3.below (n := o.length) (xs := flat encD o) (own_below HO.out (by repeat (first | exact Below.refl _ _ | assumption | refine Below.drew ?_ | refine below_drewN ?_ _ | refine Below.setCell ?_ (by first | exact Nat.le_refl _ | exact Below.size (by assumption) | (simp; done) | (simp; omega) | omega) _ | refine Below.alloc ?_ (by first | exact Nat.le_refl _ | exact Below.size (by assumption) | (simp; done) | (simp; omega) | omega) _))) (below_after HB.out (by repeat (first | exact Below.refl _ _ | assumption | refine Below.drew ?_ | refine below_drewN ?_ _ | refine Below.setCell ?_ (by first | exact Nat.le_refl _ | exact Below.size (by assumption) | (simp; done) | (simp; omega) | omega) _ | refine Below.alloc ?_ (by first | exact Nat.le_refl _ | exact Below.size (by assumption) | (simp; done) | (simp; omega) | omega) _))) (by simp; omega))
                | fail)
            have HP3 := Lib.hid hp3.1
            clear hp3
            go_wp2_with fail
            go_roundw
            case rel =>
              refine ⟨(p :: a), [], o ++ [addD q], _, _, _, _, rfl, rfl, ?_, by first | omega | (simp; done), by first | omega | (simp; done), by first | omega | (simp; omega), HXA.out, HTB.out, (by have h := HP3.out; rw [flat_append, List.length_append, flat_cons, flat_nil, List.append_nil]; exact own_below h (by repeat (first | exact Below.refl _ _ | assumption | refine Below.drew ?_ | refine below_drewN ?_ _ | refine Below.setCell ?_ (by first | exact Nat.le_refl _ | exact Below.size (by assumption) | (simp; done) | (simp; omega) | omega) _ | refine Below.alloc ?_ (by first | exact Nat.le_refl _ | exact Below.size (by assumption) | (simp; done) | (simp; omega) | omega) _))), hb3⟩
              rw [← HE.out, diffM_gt _ _ HLT.out]; simp
            case measure => first | (simp; done) | (simp; omega)
          · rw [if_neg hcb] at HTB
            go_wp2_with fail
            go_quiet (fail)
            go_wp2_with fail
            go_quiet (fail)
            go_wp2_with fail
            go_region_held3 (fun w' => w'.cell? bd = some (.string q.1) ∧ w'.cell? ⟨bd.block, bd.off + 1, none⟩ = some (.string q.2))
              (refine ⟨?_, ?_⟩ <;> first | assumption | exact (hb3.cell hlb).trans HQW.out.1 | exact (hb3.cell (p := ⟨bd.block, bd.off + 1, none⟩) hlb).trans HQW.out.2 | exact (Below.cell (B := wr.heap.size) (by repeat (first | exact Below.refl _ _ | assumption | refine Below.drew ?_ | refine below_drewN ?_ _ | refine Below.setCell ?_ (by first | exact Nat.le_refl _ | exact Below.size (by assumption) | (simp; done) | (simp; omega) | omega) _ | refine Below.alloc ?_ (by first | exact Nat.le_refl _ | exact Below.size (by assumption) | (simp; done) | (simp; omega) | omega) _)) (show bd.block < wr.heap.size by omega)).trans hq1 | exact (Below.cell (B := wr.heap.size) (p := ⟨bd.block, bd.off + 1, none⟩) (by repeat (first | exact Below.refl _ _ | assumption | refine Below.drew ?_ | refine below_drewN ?_ _ | refine Below.setCell ?_ (by first | exact Nat.le_refl _ | exact Below.size (by assumption) | (simp; done) | (simp; omega) | omega) _ | refine Below.alloc ?_ (by first | exact Nat.le_refl _ | exact Below.size (by assumption) | (simp; done) | (simp; omega) | omega) _)) (show bd.block < wr.heap.size by omega)).trans hq2)
              (first
                | (refine step_push_one elDiff rfl _ _ rfl w.heap.size u5 o.length _ rfl (own_below HO.out (by repeat (first | exact Below.refl _ _ | assumption | refine Below.drew ?_ | refine below_drewN ?_ _ | refine Below.setCell ?_ (by first | exact Nat.le_refl _ | exact Below.size (by assumption) | (simp; done) | (simp; omega) | omega) _ | refine Below.alloc ?_ (by first | exact Nat.le_refl _ | exact Below.size (by assumption) | (simp; done) | (simp; omega) | omega) _))) wr.heap.size (encD (addD q)) (heap_alloc_new _ _) rfl rfl (by simp [encD, delD, addD, chgD, Value.oneCell']) (by simp only [maxLen]; omega) (by omega) (by simp; omega) ?_; intro v3 w3 hp3; have hb3 := hp3.below (n := o.length) (xs := flat encD o) (own_below HO.out (by repeat (first | exact Below.refl _ _ | assumption | refine Below.drew ?_ | refine below_drewN ?_ _ | refine Below.setCell ?_ (by first | exact Nat.le_refl _ | exact Below.size (by assumption) | (simp; done) | (simp; omega) | omega) _ | refine Below.alloc ?_ (by first | exact Nat.le_refl _ | exact Below.size (by assumption) | (simp; done) | (simp; omega) | omega) _))) (below_after HB.out (by repeat (first | exact Below.refl _ _ | assumption | refine Below.drew ?_ | refine below_drewN ?_ _ | refine Below.setCell ?_ (by first | exact Nat.le_refl _ | exact Below.size (by assumption) | (simp; done) | (simp; omega) | omega) _ | refine Below.alloc ?_ (by first | exact Nat.le_refl _ | exact Below.size (by assumption) | (simp; done) | (simp; omega) | omega) _))) (by simp; omega))
                | fail)
            have HP3 := Lib.hid hp3.1
            clear hp3
            go_wp2_with fail
            go_roundw
            case rel =>
              refine ⟨(p :: a), b, o ++ [addD q], _, _, _, _, rfl, rfl, ?_, by first | omega | (simp; done), by first | omega | (simp; done), by first | omega | (simp; omega), HXA.out, HTB.out, (by have h := HP3.out; rw [flat_append, List.length_append, flat_cons, flat_nil, List.append_nil]; exact own_below h (by repeat (first | exact Below.refl _ _ | assumption | refine Below.drew ?_ | refine below_drewN ?_ _ | refine Below.setCell ?_ (by first | exact Nat.le_refl _ | exact Below.size (by assumption) | (simp; done) | (simp; omega) | omega) _ | refine Below.alloc ?_ (by first | exact Nat.le_refl _ | exact Below.size (by assumption) | (simp; done) | (simp; omega) | omega) _))), hb3⟩
              rw [← HE.out, diffM_gt _ _ HLT.out]; simp
            case measure => first | (simp; done) | (simp; omega)
        | false =>
          have hgt1 : Op.bytesLess q.1.toList p.1.toList = false := hgt
          have hkk := lt_tri hlt hgt
          clear hlt hgt
          by_cases hv : p.2 = q.2
          · have hv1 : (p.2.toList == q.2.toList) = true := by rw [hv]; simp
            have hv2 : (p.2.toList != q.2.toList) = false := by rw [hv]; simp
            have HK := Lib.hid (And.intro hkk hv)
            clear hkk hv
            by_cases hca : ca' = 1
            · rw [if_pos hca] at HTA
              subst hca
              obtain rfl : a = [] := List.eq_nil_of_length_eq_zero (by omega)
              by_cases hcb : cb' = 1
              · rw [if_pos hcb] at HTB
                subst hcb
                obtain rfl : b = [] := List.eq_nil_of_length_eq_zero (by omega)
                go_wp2_with fail
                go_quiet (fail)
                go_wp2_with fail
                go_quiet (fail)
                go_wp2_with fail
                go_quiet (fail)
                go_wp2_with fail
                go_quiet (fail)
                go_wp2_with fail
                go_roundw
                case rel =>
                  refine ⟨[], [], o, _, _, _, _, rfl, rfl, ?_, by first | omega | (simp; done), by first | omega | (simp; done), by first | omega | (simp; omega), HTA.out, HTB.out, (own_below HO.out (by repeat (first | exact Below.refl _ _ | assumption | refine Below.drew ?_ | refine below_drewN ?_ _ | refine Below.setCell ?_ (by first | exact Nat.le_refl _ | exact Below.size (by assumption) | (simp; done) | (simp; omega) | omega) _ | refine Below.alloc ?_ (by first | exact Nat.le_refl _ | exact Below.size (by assumption) | (simp; done) | (simp; omega) | omega) _))), (below_after HB.out (by repeat (first | exact Below.refl _ _ | assumption | refine Below.drew ?_ | refine below_drewN ?_ _ | refine Below.setCell ?_ (by first | exact Nat.le_refl _ | exact Below.size (by assumption) | (simp; done) | (simp; omega) | omega) _ | refine Below.alloc ?_ (by first | exact Nat.le_refl _ | exact Below.size (by assumption) | (simp; done) | (simp; omega) | omega) _)))⟩
                  rw [← HE.out, diffM_eq _ _ HK.out.1 HK.out.2]
                case measure => first | (simp; done) | (simp; omega)
              · rw [if_neg hcb] at HTB
                go_wp2_with fail
                go_quiet (fail)
                go_wp2_with fail
                go_quiet (fail)
                go_wp2_with fail
                go_quiet (fail)
                go_wp2_with fail
                go_quiet (fail)
                go_wp2_with fail
                go_roundw
                case rel =>
                  refine ⟨[], b, o, _, _, _, _, rfl, rfl, ?_, by first | omega | (simp; done), by first | omega | (simp; done), by first | omega | (simp; omega), HTA.out, HTB.out, (own_below HO.out (by repeat (first | exact Below.refl _ _ | assumption | refine Below.drew ?_ | refine below_drewN ?_ _ | refine Below.setCell ?_ (by first | exact Nat.le_refl _ | exact Below.size (by assumption) | (simp; done) | (simp; omega) | omega) _ | refine Below.alloc ?_ (by first | exact Nat.le_refl _ | exact Below.size (by assumption) | (simp; done) | (simp; omega) | omega) _))), (below_after HB.out (by repeat (first | exact Below.refl _ _ | assumption | refine Below.drew ?_ | refine below_drewN ?_ _ | refine Below.setCell ?_ (by first | exact Nat.le_refl _ | exact Below.size (by assumption) | (simp; done) | (simp; omega) | omega) _ | refine Below.alloc ?_ (by first | exact Nat.le_refl _ | exact Below.size (by assumption) | (simp; done) | (simp; omega) | omega) _)))⟩
                  rw [← HE.out, diffM_eq _ _ HK.out.1 HK.out.2]
                case measure => first | (simp; done) | (simp; omega)
            · rw [if_neg hca] at HTA
              by_cases hcb : cb' = 1
              · rw [if_pos hcb] at HTB
                subst hcb
                obtain rfl : b = [] := List.eq_nil_of_length_eq_zero (by omega)
                go_wp2_with fail
                go_quiet (fail)
                go_wp2_with fail
                go_quiet (fail)
                go_wp2_with fail
                go_quiet (fail)
                go_wp2_with fail
                go_quiet (fail)
                go_wp2_with fail
                go_roundw
                case rel =>
                  refine ⟨a, [], o, _, _, _, _, rfl, rfl, ?_, by first | omega | (simp; done), by first | omega | (simp; done), by first | omega | (simp; omega), HTA.out, HTB.out, (own_below HO.out (by repeat (first | exact Below.refl _ _ | assumption | refine Below.drew ?_ | refine below_drewN ?_ _ | refine Below.setCell ?_ (by first | exact Nat.le_refl _ | exact Below.size (by assumption) | (simp; done) | (simp; omega) | omega) _ | refine Below.alloc ?_ (by first | exact Nat.le_refl _ | exact Below.size (by assumption) | (simp; done) | (simp; omega) | omega) _))), (below_after HB.out (by repeat (first | exact Below.refl _ _ | assumption | refine Below.drew ?_ | refine below_drewN ?_ _ | refine Below.setCell ?_ (by first | exact Nat.le_refl _ | exact Below.size (by assumption) | (simp; done) | (simp; omega) | omega) _ | refine Below.alloc ?_ (by first | exact Nat.le_refl _ | exact Below.size (by assumption) | (simp; done) | (simp; omega) | omega) _)))⟩
                  rw [← HE.out, diffM_eq _ _ HK.out.1 HK.out.2]
                case measure => first | (simp; done) | (simp; omega)
              · rw [if_neg hcb] at HTB
                go_wp2_with fail
                go_quiet (fail)
                go_wp2_with fail
                go_quiet (fail)
                go_wp2_with fail
                go_quiet (fail)
                go_wp2_with fail
                go_quiet (fail)
                go_wp2_with fail
                go_roundw
                case rel =>
                  refine ⟨a, b, o, _, _, _, _, rfl, rfl, ?_, by first | omega | (simp; done), by first | omega | (simp; done), by first | omega | (simp; omega), HTA.out, HTB.out, (own_below HO.out (by repeat (first | exact Below.refl _ _ | assumption | refine Below.drew ?_ | refine below_drewN ?_ _ | refine Below.setCell ?_ (by first | exact Nat.le_refl _ | exact Below.size (by assumption) | (simp; done) | (simp; omega) | omega) _ | refine Below.alloc ?_ (by first | exact Nat.le_refl _ | exact Below.size (by assumption) | (simp; done) | (simp; omega) | omega) _))), (below_after HB.out (by repeat (first | exact Below.refl _ _ | assumption | refine Below.drew ?_ | refine below_drewN ?_ _ | refine Below.setCell ?_ (by first | exact Nat.le_refl _ | exact Below.size (by assumption) | (simp; done) | (simp; omega) | omega) _ | refine Below.alloc ?_ (by first | exact Nat.le_refl _ | exact Below.size (by assumption) | (simp; done) | (simp; omega) | omega) _)))⟩
                  rw [← HE.out, diffM_eq a b HK.out.1 HK.out.2]
                case measure => first | (simp; done) | (simp; omega)
          · obtain ⟨hv1, hv2⟩ := neL hv
            have HK := Lib.hid (And.intro hkk hv)
            clear hkk hv
            by_cases hca : ca' = 1
            · rw [if_pos hca] at HTA
              subst hca
              obtain rfl : a = [] := List.eq_nil_of_length_eq_zero (by omega)
              by_cases hcb : cb' = 1
              · rw [if_pos hcb] at HTB
                subst hcb
                obtain rfl : b = [] := List.eq_nil_of_length_eq_zero (by omega)
                go_wp2_with fail
                go_quiet (fail)
                go_wp2_with fail
                go_quiet (fail)
                go_wp2_with fail
                go_quiet (fail)
                go_wp2_with fail
                go_region_held3 (fun w' => w'.cell? ad = some (.string p.1) ∧ w'.cell? ⟨ad.block, ad.off + 1, none⟩ = some (.string p.2) ∧ w'.cell? ⟨bd.block, bd.off + 1, none⟩ = some (.string q.2))
                  (refine ⟨?_, ?_, ?_⟩ <;> first | assumption | exact (hb3.cell hla).trans HPW.out.1 | exact (hb3.cell (p := ⟨ad.block, ad.off + 1, none⟩) hla).trans HPW.out.2 | exact (hb3.cell (p := ⟨bd.block, bd.off + 1, none⟩) hlb).trans HQW.out.2 | exact (Below.cell (B := wr.heap.size) (by repeat (first | exact Below.refl _ _ | assumption | refine Below.drew ?_ | refine below_drewN ?_ _ | refine Below.setCell ?_ (by first | exact Nat.le_refl _ | exact Below.size (by assumption) | (simp; done) | (simp; omega) | omega) _ | refine Below.alloc ?_ (by first | exact Nat.le_refl _ | exact Below.size (by assumption) | (simp; done) | (simp; omega) | omega) _)) (show ad.block < wr.heap.size by omega)).trans hp1 | exact (Below.cell (B := wr.heap.size) (p := ⟨ad.block, ad.off + 1, none⟩) (by repeat (first | exact Below.refl _ _ | assumption | refine Below.drew ?_ | refine below_drewN ?_ _ | refine Below.setCell ?_ (by first | exact Nat.le_refl _ | exact Below.size (by assumption) | (simp; done) | (simp; omega) | omega) _ | refine Below.alloc ?_ (by first | exact Nat.le_refl _ | exact Below.size (by assumption) | (simp; done) | (simp; omega) | omega) _)) (show ad.block < wr.heap.size by omega)).trans hp2 | exact (Below.cell (B := wr.heap.size) (p := ⟨bd.block, bd.off + 1, none⟩) (by repeat (first | exact Below.refl _ _ | assumption | refine Below.drew ?_ | refine below_drewN ?_ _ | refine Below.setCell ?_ (by first | exact Nat.le_refl _ | exact Below.size (by assumption) | (simp; done) | (simp; omega) | omega) _ | refine Below.alloc ?_ (by first | exact Nat.le_refl _ | exact Below.size (by assumption) | (simp; done) | (simp; omega) | omega) _)) (show bd.block < wr.heap.size by omega)).trans hq2)
                  (first
                    | (refine step_push_one elDiff rfl _ _ rfl w.heap.size u5 o.length _ rfl (own_below HO.out (by repeat (first | exact Below.refl _ _ | assumption | refine Below.drew ?_ | refine below_drewN ?_ _ | refine Below.setCell ?_ (by first | exact Nat.le_refl _ | exact Below.size (by assumption) | (simp; done) | (simp; omega) | omega) _ | refine Below.alloc ?_ (by first | exact Nat.le_refl _ | exact Below.size (by assumption) | (simp; done) | (simp; omega) | omega) _))) wr.heap.size (encD (chgD p q)) (heap_alloc_new _ _) rfl rfl (by simp [encD, delD, addD, chgD, Value.oneCell']) (by simp only [maxLen]; omega) (by omega) (by simp; omega) ?_; intro v3 w3 hp3; have hb3 := hp3.below (n := o.length) (xs := flat encD o) (own_below HO.out (by repeat (first | exact Below.refl _ _ | assumption | refine Below.drew ?_ | refine below_drewN ?_ _ | refine Below.setCell ?_ (by first | exact Nat.le_refl _ | exact Below.size (by assumption) | (simp; done) | (simp; omega) | omega) _ | refine Below.alloc ?_ (by first | exact Nat.le_refl _ | exact Below.size (by assumption) | (simp; done) | (simp; omega) | omega) _))) (below_after HB.out (by repeat (first | exact Below.refl _ _ | assumption | refine Below.drew ?_ | refine below_drewN ?_ _ | refine Below.setCell ?_ (by first | exact Nat.le_refl _ | exact Below.size (by assumption) | (simp; done) | (simp; omega) | omega) _ | refine Below.alloc ?_ (by first | exact Nat.le_refl _ | exact Below.size (by assumption) | (simp; done) | (simp; omega) | omega) _))) (by simp; omega))
                    | fail)
                have HP3 := Lib.hid hp3.1
                clear hp3
                go_wp2_with fail
                go_quiet (fail)
                go_wp2_with fail
                go_roundw
                case rel =>
                  refine ⟨[], [], o ++ [chgD p q], _, _, _, _, rfl, rfl, ?_, by first | omega | (simp; done), by first | omega | (simp; done), by first | omega | (simp; omega), HTA.out, HTB.out, (by have h := HP3.out; rw [flat_append, List.length_append, flat_cons, flat_nil, List.append_nil]; exact own_below h (by repeat (first | exact Below.refl _ _ | assumption | refine Below.drew ?_ | refine below_drewN ?_ _ | refine Below.setCell ?_ (by first | exact Nat.le_refl _ | exact Below.size (by assumption) | (simp; done) | (simp; omega) | omega) _ | refine Below.alloc ?_ (by first | exact Nat.le_refl _ | exact Below.size (by assumption) | (simp; done) | (simp; omega) | omega) _))), (by repeat (first | exact Below.refl _ _ | assumption | refine Below.drew ?_ | refine below_drewN ?_ _ | refine Below.setCell ?_ (by first | exact Nat.le_refl _ | exact Below.size (by assumption) | (simp; done) | (simp; omega) | omega) _ | refine Below.alloc ?_ (by first | exact Nat.le_refl _ | exact Below.size (by assumption) | (simp; done) | (simp; omega) | omega) _))⟩
                  rw [← HE.out, diffM_ne _ _ HK.out.1 HK.out.2]; simp
                case measure => first | (simp; done) | (simp; omega)
              · rw [if_neg hcb] at HTB
                go_wp2_with fail
                go_quiet (fail)
                go_wp2_with fail
                go_quiet (fail)
                go_wp2_with fail
                go_quiet (fail)
                go_wp2_with fail
                go_region_held3 (fun w' => w'.cell? ad = some (.string p.1) ∧ w'.cell? ⟨ad.block, ad.off + 1, none⟩ = some (.string p.2) ∧ w'.cell? ⟨bd.block, bd.off + 1, none⟩ = some (.string q.2))
                  (refine ⟨?_, ?_, ?_⟩ <;> first | assumption | exact (hb3.cell hla).trans HPW.out.1 | exact (hb3.cell (p := ⟨ad.block, ad.off + 1, none⟩) hla).trans HPW.out.2 | exact (hb3.cell (p := ⟨bd.block, bd.off + 1, none⟩) hlb).trans HQW.out.2 | exact (Below.cell (B := wr.heap.size) (by repeat (first | exact Below.refl _ _ | assumption | refine Below.drew ?_ | refine below_drewN ?_ _ | refine Below.setCell ?_ (by first | exact Nat.le_refl _ | exact Below.size (by assumption) | (simp; done) | (simp; omega) | omega) _ | refine Below.alloc ?_ (by first | exact Nat.le_refl _ | exact Below.size (by assumption) | (simp; done) | (simp; omega) | omega) _)) (show ad.block < wr.heap.size by omega)).trans hp1 | exact (Below.cell (B := wr.heap.size) (p := ⟨ad.block, ad.off + 1, none⟩) (by repeat (first | exact Below.refl _ _ | assumption | refine Below.drew ?_ | refine below_drewN ?_ _ | refine Below.setCell ?_ (by first | exact Nat.le_refl _ | exact Below.size (by assumption) | (simp; done) | (simp; omega) | omega) _ | refine Below.alloc ?_ (by first | exact Nat.le_refl _ | exact Below.size (by assumption) | (simp; done) | (simp; omega) | omega) _)) (show ad.block < wr.heap.size by omega)).trans hp2 | exact (Below.cell (B := wr.heap.size) (p := ⟨bd.block, bd.off + 1, none⟩) (by repeat (first | exact Below.refl _ _ | assumption | refine Below.drew ?_ | refine below_drewN ?_ _ | refine Below.setCell ?_ (by first | exact Nat.le_refl _ | exact Below.size (by assumption) | (simp; done) | (simp; omega) | omega) _ | refine Below.alloc ?_ (by first | exact Nat.le_refl _ | exact Below.size (by assumption) | (simp; done) | (simp; omega) | omega) _)) (show bd.block < wr.heap.size by omega)).trans hq2)
                  (first
                    | (refine step_push_one elDiff rfl _ _ rfl w.heap.size u5 o.length _ rfl (own_below HO.out (by repeat (first | exact Below.refl _ _ | assumption | refine Below.drew ?_ | refine below_drewN ?_ _ | refine Below.setCell ?_ (by first | exact Nat.le_refl _ | exact Below.size (by assumption) | (simp; done) | (simp; omega) | omega) _ | refine Below.alloc ?_ (by first | exact Nat.le_refl _ | exact Below.size (by assumption) | (simp; done) | (simp; omega) | omega) _))) wr.heap.size (encD (chgD p q)) (heap_alloc_new _ _) rfl rfl (by simp [encD, delD, addD, chgD, Value.oneCell']) (by simp only [maxLen]; omega) (by omega) (by simp; omega) ?_; intro v3 w3 hp3; have hb3 := hp3.below (n := o.length) (xs := flat encD o) (own_below HO.out (by repeat (first | exact Below.refl _ _ | assumption | refine Below.drew ?_ | refine below_drewN ?_ _ | refine Below.setCell ?_ (by first | exact Nat.le_refl _ | exact Below.size (by assumption) | (simp; done) | (simp; omega) | omega) _ | refine Below.alloc ?_ (by first | exact Nat.le_refl _ | exact Below.size (by assumption) | (simp; done) | (simp; omega) | omega) _))) (below_after HB.out (by repeat (first | exact Below.refl _ _ | assumption | refine Below.drew ?_ | refine below_drewN ?_ _ | refine Below.setCell ?_ (by first | exact Nat.le_refl _ | exact Below.size (by assumption) | (simp; done) | (simp; omega) | omega) _ | refine Below.alloc ?_ (by first | exact Nat.le_refl _ | exact Below.size (by assumption) | (simp; done) | (simp; omega) | omega) _))) (by simp; omega))
                    | fail)
                have HP3 := Lib.hid hp3.1
                clear hp3
                go_wp2_with fail
                go_quiet (fail)
                go_wp2_with fail
                go_roundw
                case rel =>
                  refine ⟨[], b, o ++ [chgD p q], _, _, _, _, rfl, rfl, ?_, by first | omega | (simp; done), by first | omega | (simp; done), by first | omega | (simp; omega), HTA.out, HTB.out, (by have h := HP3.out; rw [flat_append, List.length_append, flat_cons, flat_nil, List.append_nil]; exact own_below h (by repeat (first | exact Below.refl _ _ | assumption | refine Below.drew ?_ | refine below_drewN ?_ _ | refine Below.setCell ?_ (by first | exact Nat.le_refl _ | exact Below.size (by assumption) | (simp; done) | (simp; omega) | omega) _ | refine Below.alloc ?_ (by first | exact Nat.le_refl _ | exact Below.size (by assumption) | (simp; done) | (simp; omega) | omega) _))), (by repeat (first | exact Below.refl _ _ | assumption | refine Below.drew ?_ | refine below_drewN ?_ _ | refine Below.setCell ?_ (by first | exact Nat.le_refl _ | exact Below.size (by assumption) | (simp; done) | (simp; omega) | omega) _ | refine Below.alloc ?_ (by first | exact Nat.le_refl _ | exact Below.size (by assumption) | (simp; done) | (simp; omega) | omega) _))⟩
                  rw [← HE.out, diffM_ne _ _ HK.out.1 HK.out.2]; simp
                case measure => first | (simp; done) | (simp; omega)
            · rw [if_neg hca] at HTA
              by_cases hcb : cb' = 1
              · rw [if_pos hcb] at HTB
                subst hcb
                obtain rfl : b = [] := List.eq_nil_of_length_eq_zero (by omega)
                go_wp2_with fail
                go_quiet (fail)
                go_wp2_with fail
                go_quiet (fail)
                go_wp2_with fail
                go_quiet (fail)
                go_wp2_with fail
                go_region_held3 (fun w' => w'.cell? ad = some (.string p.1) ∧ w'.cell? ⟨ad.block, ad.off + 1, none⟩ = some (.string p.2) ∧ w'.cell? ⟨bd.block, bd.off + 1, none⟩ = some (.string q.2))
                  (refine ⟨?_, ?_, ?_⟩ <;> first | assumption | exact (hb3.cell hla).trans HPW.out.1 | exact (hb3.cell (p := ⟨ad.block, ad.off + 1, none⟩) hla).trans HPW.out.2 | exact (hb3.cell (p := ⟨bd.block, bd.off + 1, none⟩) hlb).trans HQW.out.2 | exact (Below.cell (B := wr.heap.size) (by repeat (first | exact Below.refl _ _ | assumption | refine Below.drew ?_ | refine below_drewN ?_ _ | refine Below.setCell ?_ (by first | exact Nat.le_refl _ | exact Below.size (by assumption) | (simp; done) | (simp; omega) | omega) _ | refine Below.alloc ?_ (by first | exact Nat.le_refl _ | exact Below.size (by assumption) | (simp; done) | (simp; omega) | omega) _)) (show ad.block < wr.heap.size by omega)).trans hp1 | exact (Below.cell (B := wr.heap.size) (p := ⟨ad.block, ad.off + 1, none⟩) (by repeat (first | exact Below.refl _ _ | assumption | refine Below.drew ?_ | refine below_drewN ?_ _ | refine Below.setCell ?_ (by first | exact Nat.le_refl _ | exact Below.size (by assumption) | (simp; done) | (simp; omega) | omega) _ | refine Below.alloc ?_ (by first | exact Nat.le_refl _ | exact Below.size (by assumption) | (simp; done) | (simp; omega) | omega) _)) (show ad.block < wr.heap.size by omega)).trans hp2 | exact (Below.cell (B := wr.heap.size) (p := ⟨bd.block, bd.off + 1, none⟩) (by repeat (first | exact Below.refl _ _ | assumption | refine Below.drew ?_ | refine below_drewN ?_ _ | refine Below.setCell ?_ (by first | exact Nat.le_refl _ | exact Below.size (by assumption) | (simp; done) | (simp; omega) | omega) _ | refine Below.alloc ?_ (by first | exact Nat.le_refl _ | exact Below.size (by assumption) | (simp; done) | (simp; omega) | omega) _)) (show bd.block < wr.heap.size by omega)).trans hq2)
                  (first
                    | (refine step_push_one elDiff rfl _ _ rfl w.heap.size u5 o.length _ rfl (own_below HO.out (by repeat (first | exact Below.refl _ _ | assumption | refine Below.drew ?_ | refine below_drewN ?_ _ | refine Below.setCell ?_ (by first | exact Nat.le_refl _ | exact Below.size (by assumption) | (simp; done) | (simp; omega) | omega) _ | refine Below.alloc ?_ (by first | exact Nat.le_refl _ | exact Below.size (by assumption) | (simp; done) | (simp; omega) | omega) _))) wr.heap.size (encD (chgD p q)) (heap_alloc_new _ _) rfl rfl (by simp [encD, delD, addD, chgD, Value.oneCell']) (by simp only [maxLen]; omega) (by omega) (by simp; omega) ?_; intro v3 w3 hp3; have hb3 := hp3.below (n := o.length) (xs := flat encD o) (own_below HO.out (by repeat (first | exact Below.refl _ _ | assumption | refine Below.drew ?_ | refine below_drewN ?_ _ | refine Below.setCell ?_ (by first | exact Nat.le_refl _ | exact Below.size (by assumption) | (simp; done) | (simp; omega) | omega) _ | refine Below.alloc ?_ (by first | exact Nat.le_refl _ | exact Below.size (by assumption) | (simp; done) | (simp; omega) | omega) _))) (below_after HB.out (by repeat (first | exact Below.refl _ _ | assumption | refine Below.drew ?_ | refine below_drewN ?_ _ | refine Below.setCell ?_ (by first | exact Nat.le_refl _ | exact Below.size (by assumption) | (simp; done) | (simp; omega) | omega) _ | refine Below.alloc ?_ (by first | exact Nat.le_refl _ | exact Below.size (by assumption) | (simp; done) | (simp; omega) | omega) _))) (by simp; omega))
                    | fail)
                have HP3 := Lib.hid hp3.1
                clear hp3
                go_wp2_with fail
                go_quiet (fail)
                go_wp2_with fail
                go_roundw
                case rel =>
                  refine ⟨a, [], o ++ [chgD p q], _, _, _, _, rfl, rfl, ?_, by first | omega | (simp; done), by first | omega | (simp; done), by first | omega | (simp; omega), HTA.out, HTB.out, (by have h := HP3.out; rw [flat_append, List.length_append, flat_cons, flat_nil, List.append_nil]; exact own_below h (by repeat (first | exact Below.refl _ _ | assumption | refine Below.drew ?_ | refine below_drewN ?_ _ | refine Below.setCell ?_ (by first | exact Nat.le_refl _ | exact Below.size (by assumption) | (simp; done) | (simp; omega) | omega) _ | refine Below.alloc ?_ (by first | exact Nat.le_refl _ | exact Below.size (by assumption) | (simp; done) | (simp; omega) | omega) _))), (by repeat (first | exact Below.refl _ _ | assumption | refine Below.drew ?_ | refine below_drewN ?_ _ | refine Below.setCell ?_ (by first | exact Nat.le_refl _ | exact Below.size (by assumption) | (simp; done) | (simp; omega) | omega) _ | refine Below.alloc ?_ (by first | exact Nat.le_refl _ | exact Below.size (by assumption) | (simp; done) | (simp; omega) | omega) _))⟩
                  rw [← HE.out, diffM_ne _ _ HK.out.1 HK.out.2]; simp
                case measure => first | (simp; done) | (simp; omega)
              · rw [if_neg hcb] at HTB
                go_wp2_with fail
                go_quiet (fail)
                go_wp2_with fail
                go_quiet (fail)
                go_wp2_with fail
                go_quiet (fail)
                go_wp2_with fail
                go_region_held3 (fun w' => w'.cell? ad = some (.string p.1) ∧ w'.cell? ⟨ad.block, ad.off + 1, none⟩ = some (.string p.2) ∧ w'.cell? ⟨bd.block, bd.off + 1, none⟩ = some (.string q.2))
                  (refine ⟨?_, ?_, ?_⟩ <;> first | assumption | exact (hb3.cell hla).trans HPW.out.1 | exact (hb3.cell (p := ⟨ad.block, ad.off + 1, none⟩) hla).trans HPW.out.2 | exact (hb3.cell (p := ⟨bd.block, bd.off + 1, none⟩) hlb).trans HQW.out.2 | exact (Below.cell (B := wr.heap.size) (by repeat (first | exact Below.refl _ _ | assumption | refine Below.drew ?_ | refine below_drewN ?_ _ | refine Below.setCell ?_ (by first | exact Nat.le_refl _ | exact Below.size (by assumption) | (simp; done) | (simp; omega) | omega) _ | refine Below.alloc ?_ (by first | exact Nat.le_refl _ | exact Below.size (by assumption) | (simp; done) | (simp; omega) | omega) _)) (show ad.block < wr.heap.size by omega)).trans hp1 | exact (Below.cell (B := wr.heap.size) (p := ⟨ad.block, ad.off + 1, none⟩) (by repeat (first | exact Below.refl _ _ | assumption | refine Below.drew ?_ | refine below_drewN ?_ _ | refine Below.setCell ?_ (by first | exact Nat.le_refl _ | exact Below.size (by assumption) | (simp; done) | (simp; omega) | omega) _ | refine Below.alloc ?_ (by first | exact Nat.le_refl _ | exact Below.size (by assumption) | (simp; done) | (simp; omega) | omega) _)) (show ad.block < wr.heap.size by omega)).trans hp2 | exact (Below.cell (B := wr.heap.size) (p := ⟨bd.block, bd.off + 1, none⟩) (by repeat (first | exact Below.refl _ _ | assumption | refine Below.drew ?_ | refine below_drewN ?_ _ | refine Below.setCell ?_ (by first | exact Nat.le_refl _ | exact Below.size (by assumption) | (simp; done) | (simp; omega) | omega) _ | refine Below.alloc ?_ (by first | exact Nat.le_refl _ | exact Below.size (by assumption) | (simp; done) | (simp; omega) | omega) _)) (show bd.block < wr.heap.size by omega)).trans hq2)
                  (first
                    | (refine step_push_one elDiff rfl _ _ rfl w.heap.size u5 o.length _ rfl (own_below HO.out (by repeat (first | exact Below.refl _ _ | assumption | refine Below.drew ?_ | refine below_drewN ?_ _ | refine Below.setCell ?_ (by first | exact Nat.le_refl _ | exact Below.size (by assumption) | (simp; done) | (simp; omega) | omega) _ | refine Below.alloc ?_ (by first | exact Nat.le_refl _ | exact Below.size (by assumption) | (simp; done) | (simp; omega) | omega) _))) wr.heap.size (encD (chgD p q)) (heap_alloc_new _ _) rfl rfl (by simp [encD, delD, addD, chgD, Value.oneCell']) (by simp only [maxLen]; omega) (by omega) (by simp; omega) ?_; intro v3 w3 hp3; have hb3 := hp3.below (n := o.length) (xs := flat encD o) (own_below HO.out (by repeat (first | exact Below.refl _ _ | assumption | refine Below.drew ?_ | refine below_drewN ?_ _ | refine Below.setCell ?_ (by first | exact Nat.le_refl _ | exact Below.size (by assumption) | (simp; done) | (simp; omega) | omega) _ | refine Below.alloc ?_ (by first | exact Nat.le_refl _ | exact Below.size (by assumption) | (simp; done) | (simp; omega) | omega) _))) (below_after HB.out (by repeat (first | exact Below.refl _ _ | assumption | refine Below.drew ?_ | refine below_drewN ?_ _ | refine Below.setCell ?_ (by first | exact Nat.le_refl _ | exact Below.size (by assumption) | (simp; done) | (simp; omega) | omega) _ | refine Below.alloc ?_ (by first | exact Nat.le_refl _ | exact Below.size (by assumption) | (simp; done) | (simp; omega) | omega) _))) (by simp; omega))
                    | fail)
                have HP3 := Lib.hid hp3.1
                clear hp3
                go_wp2_with fail
                go_quiet (fail)
                go_wp2_with fail
                go_roundw
                case rel =>
                  refine ⟨a, b, o ++ [chgD p q], _, _, _, _, rfl, rfl, ?_, by first | omega | (simp; done), by first | omega | (simp; done), by first | omega | (simp; omega), HTA.out, HTB.out, (by have h := HP3.out; rw [flat_append, List.length_append, flat_cons, flat_nil, List.append_nil]; exact own_below h (by repeat (first | exact Below.refl _ _ | assumption | refine Below.drew ?_ | refine below_drewN ?_ _ | refine Below.setCell ?_ (by first | exact Nat.le_refl _ | exact Below.size (by assumption) | (simp; done) | (simp; omega) | omega) _ | refine Below.alloc ?_ (by first | exact Nat.le_refl _ | exact Below.size (by assumption) | (simp; done) | (simp; omega) | omega) _))), (by repeat (first | exact Below.refl _ _ | assumption | refine Below.drew ?_ | refine below_drewN ?_ _ | refine Below.setCell ?_ (by first | exact Nat.le_refl _ | exact Below.size (by assumption) | (simp; done) | (simp; omega) | omega) _ | refine Below.alloc ?_ (by first | exact Nat.le_refl _ | exact Below.size (by assumption) | (simp; done) | (simp; omega) | omega) _))⟩
                  rw [← HE.out, diffM_ne a b HK.out.1 HK.out.2]; simp
                case measure => first | (simp; done) | (simp; omega)
end Go.Proofs.Ytlfnpnkpjdmonaa
