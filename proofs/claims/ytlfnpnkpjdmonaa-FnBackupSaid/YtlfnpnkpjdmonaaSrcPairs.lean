import Derived.Test.YtlfnpnkpjdmonaaDrop
import Derived.Test.YtlfnpnkpjdmonaaSrc
set_option linter.unusedVariables false
set_option linter.unusedSimpArgs false
namespace Go.Proofs.Ytlfnpnkpjdmonaa
open Go.RowKit

/-! ### pairs that are drawn -/
def drawnKeys : List (List UInt8) := [[97], [97, 98], [97, 98, 99], [98], [98, 47, 49], [98, 47, 50], [99], [100], [101], [102], [103], [104]]
def drawnVals : List (List UInt8) := [[], [49], [118, 97, 108, 117, 101]]
theorem key_size {x : List UInt8} (h : x ∈ drawnKeys) : 1 ≤ x.length ∧ x.length ≤ 30 := by
  simp only [drawnKeys, List.mem_cons, List.not_mem_nil, or_false] at h
  rcases h with rfl | rfl | rfl | rfl | rfl | rfl | rfl | rfl | rfl | rfl | rfl | rfl <;> simp
theorem val_size {x : List UInt8} (h : x ∈ drawnVals) : x.length ≤ 90 := by
  simp only [drawnVals, List.mem_cons, List.not_mem_nil, or_false] at h
  rcases h with rfl | rfl | rfl <;> simp
set_option maxRecDepth 100000 in
theorem key_any (g : Nat) (m : Int) (w : World) (h : Sr w g m) (hm : m ≤ 1099511627000) : Calls Try.prog 133 #[.pointer (some ⟨g, 0, none⟩)] w (PickPost drawnKeys w g (m + 3)) := by
  have hgl := h.lt
  have HB : Hid (Below w.heap.size w (w.alloc (.cells #[.string ⟨#[97]⟩, .string ⟨#[97, 98]⟩, .string ⟨#[97, 98, 99]⟩, .string ⟨#[98]⟩, .string ⟨#[98, 47, 49]⟩, .string ⟨#[98, 47, 50]⟩, .string ⟨#[99]⟩, .string ⟨#[100]⟩, .string ⟨#[101]⟩, .string ⟨#[102]⟩, .string ⟨#[103]⟩, .string ⟨#[104]⟩] 9))) := by show Below _ _ _; repeat (first | exact Below.refl _ _ | assumption | refine Below.drew ?_ | refine below_drewN ?_ _ | refine Below.setCell ?_ (by first | exact Nat.le_refl _ | exact Below.size (by assumption) | (simp; done) | (simp; omega) | omega) _ | refine Below.alloc ?_ (by first | exact Nat.le_refl _ | exact Below.size (by assumption) | (simp; done) | (simp; omega) | omega) _)
  have HS := Lib.hid (h.below HB.out)
  clear h
  go_enter Try.func133, Try.ntmps133
  go_wp2_with fail
  refine (pick_any g w.heap.size m 12 drawnKeys _ HS.out (by omega) hgl ?_ (by simp) (by simp [drawnKeys]) (by simp [drawnKeys])).mono ?_
  · intro j hj
    have hj2 : j < 12 := hj
    match j, hj2 with
    | 0, _ => simp [go_sem]; rfl
    | 1, _ => simp [go_sem]; rfl
    | 2, _ => simp [go_sem]; rfl
    | 3, _ => simp [go_sem]; rfl
    | 4, _ => simp [go_sem]; rfl
    | 5, _ => simp [go_sem]; rfl
    | 6, _ => simp [go_sem]; rfl
    | 7, _ => simp [go_sem]; rfl
    | 8, _ => simp [go_sem]; rfl
    | 9, _ => simp [go_sem]; rfl
    | 10, _ => simp [go_sem]; rfl
    | 11, _ => simp [go_sem]; rfl
  rintro e w2 ⟨x, hxm, rfl, hs2, hg2⟩
  have HG2 := Lib.hid (grown_after (grown_below HB.out (some g)) hg2)
  have HS2 := Lib.hid (And.intro hxm hs2)
  clear hs2 hg2 hxm
  go_wp2_with fail
  go_ret
  exact ⟨x, HS2.out.1, rfl, HS2.out.2, HG2.out⟩
/-- pairs that were drawn -/
def DrawnP (l : List Pr) : Prop := l.length ≤ 11 ∧ Rise l ∧ ∀ p ∈ l, pairB p = true
def PairsPost (w : World) (g : Nat) (m : Int) (e : Ending) (w' : World) : Prop := ∃ (q c : Nat) (l : List Pr), e = .returned (.slice (some ⟨q, 0, none⟩) l.length c) ∧ DrawnP l ∧ w'.ownsRow w.heap.size 82 2 (.slice (some ⟨q, 0, none⟩) l.length c) l.length (flat encP l) ∧ Sr w' g (m + 100) ∧ w.grownBy w' (some g)
theorem pairB_drawn {x y : List UInt8} (hx : x ∈ drawnKeys) (hy : y ∈ drawnVals) : pairB (bs x, bs y) = true := by
  have h1 := key_size hx
  have h2 := val_size hy
  have e1 : (bs x).size = x.length := by simp [ByteArray.size]
  have e2 : (bs y).size = y.length := by simp [ByteArray.size]
  unfold pairB
  simp only [e1, e2, Bool.and_eq_true, decide_eq_true_eq]
  omega
set_option maxRecDepth 100000 in
set_option maxHeartbeats 1000000 in
theorem pairs_any (g : Nat) (m : Int) (w : World) (h : Sr w g m) (hm : m ≤ 1099511620000) : Calls Try.prog 128 #[.pointer (some ⟨g, 0, none⟩)] w (PairsPost w g m) := by
  have hgl := h.lt
  have HS := Lib.hid (h.below ((Below.refl _ _).alloc (Nat.le_refl _) (.cells #[] 82)))
  have H0 : Hid ((w.alloc (.cells #[] 82)).ownsRow w.heap.size 82 2 (.slice (some ⟨w.heap.size, 0, none⟩) 0 0) 0 []) := own_empty_at (Nat.le_refl _) (heap_alloc_new _ _)
  have HG : Hid (w.grownBy (w.alloc (.cells #[] 82)) (some g)) := grown_below ((Below.refl _ _).alloc (Nat.le_refl _) _) _
  clear h
  go_enter Try.func128, Try.ntmps128
  go_wp2_with fail
  refine (next_any g m 12 _ HS.out (by omega) (by omega) (by omega)).mono ?_
  rintro e w1 ⟨n, rfl, h0, h1, hs1, hg1⟩
  have HS1 := Lib.hid hs1
  have HO1 := Lib.hid (H0.out.kept hg1 (.inr (by simp [Value.ownBlock]; omega)))
  have HG1 := Lib.hid (grown_after HG.out hg1)
  clear hs1 hg1 HS H0 HG
  go_wp2
  go_loopw [3, 4] (fun v i wr => ∃ (k : Int) (q c : Nat) (l : List Pr), 0 ≤ k ∧ k + l.length ≤ 11 ∧ i = .int .i64 k ∧ v = .slice (some ⟨q, 0, none⟩) l.length c ∧ Rise l ∧ (∀ p ∈ l, pairB p = true) ∧ wr.ownsRow w.heap.size 82 2 (.slice (some ⟨q, 0, none⟩) l.length c) l.length (flat encP l) ∧ Sr wr g (m + 3 + 6 * (11 - k)) ∧ w.grownBy wr (some g)) (fun _ i _ => (intOf i).toNat)
  case atStart => exact ⟨n, w.heap.size, 0, [], h0, by simp; omega, rfl, rfl, trivial, by simp, HO1.out, HS1.out.more (by omega), HG1.out⟩
  case round =>
    obtain ⟨k, q, c, l, hk0, hkl, rfl, rfl, hri, hall, ho, hs, hg⟩ := hrel
    have HA := Lib.hid (And.intro hri hall)
    have HO := Lib.hid ho
    have HS := Lib.hid hs
    have HG := Lib.hid hg
    have hsw := hg.size
    clear hri hall ho hs hg HS1 HO1 HG1
    by_cases hk : 0 < k
    · go_wp2_with fail
      refine (key_any g _ _ HS.out (by omega)).mono ?_
      rintro e w2 ⟨x, hxm, rfl, hs2, hg2⟩
      have hsz2 := hg2.size
      have HO2 := Lib.hid (HO.out.kept hg2 (.inr (by have := (HO.out.lt q rfl).1; simp [Value.ownBlock]; omega)))
      have HG2 := Lib.hid (grown_after HG.out hg2)
      have HB : Hid (Below w2.heap.size w2 (w2.alloc (.cells #[.string ⟨#[]⟩, .string ⟨#[49]⟩, .string ⟨#[118, 97, 108, 117, 101]⟩] 9))) := by show Below _ _ _; repeat (first | exact Below.refl _ _ | assumption | refine Below.drew ?_ | refine below_drewN ?_ _ | refine Below.setCell ?_ (by first | exact Nat.le_refl _ | exact Below.size (by assumption) | (simp; done) | (simp; omega) | omega) _ | refine Below.alloc ?_ (by first | exact Nat.le_refl _ | exact Below.size (by assumption) | (simp; done) | (simp; omega) | omega) _)
      have HS2 := Lib.hid (hs2.below HB.out)
      have HXM := Lib.hid hxm
      clear hs2 hg2 hxm HS HO HG
      go_wp2_with fail
      refine (pick_any g w2.heap.size _ 3 drawnVals _ HS2.out (by omega) (by omega) ?_ (by simp) (by simp [drawnVals]) (by simp [drawnVals])).mono ?_
      · intro j hj
        match j, hj with
        | 0, _ => simp [go_sem]; rfl
        | 1, _ => simp [go_sem]; rfl
        | 2, _ => simp [go_sem]; rfl
      rintro e w3 ⟨y, hym, rfl, hs3, hg3⟩
      have hsz3 := hg3.size
      simp only [World.size_alloc] at hsz3
      have HO3 := Lib.hid ((own_below HO2.out HB.out).kept hg3 (.inr (by have := (HO2.out.lt q rfl).1; simp [Value.ownBlock]; omega)))
      have HG3 := Lib.hid (grown_after (grown_after HG2.out (grown_below HB.out (some g))) hg3)
      have HS3 := Lib.hid hs3
      have HYM := Lib.hid hym
      have hlc : l.length ≤ c := by
        obtain ⟨_, _, e, h⟩ := own_form HO3.out
        cases e
        exact h
      clear hs3 hg3 hym HS2 HO2 HG2
      go_wp2_with fail
      refine (l01Put_any q c l (bs x) (bs y) _ (Rd.own HO3.out) (by omega) hlc).mono ?_
      rintro e w4 ⟨v4, rfl, ho4, hb4⟩
      obtain ⟨q4, c4, rfl, _⟩ := own_some ho4 (by unfold putP; simp; omega)
      have hsz4 := hb4.size
      have HO4 := Lib.hid (own_mono ho4 (show w.heap.size ≤ w3.heap.size by omega))
      have HG4 := Lib.hid (grown_after HG3.out (grown_below hb4 (some g)))
      have HS4 := Lib.hid (HS3.out.below hb4)
      clear ho4 hb4 HO3 HG3 HS3
      go_wp2_with fail
      go_roundw
      case rel =>
        have h2 := len_putP l (bs x) (bs y)
        refine ⟨k - 1, q4, c4, putP l (bs x) (bs y), by omega, by omega, by go_num, rfl, rise_putP HA.out.1 _ _, ?_, HO4.out, HS4.out.more (by omega), HG4.out⟩
        intro p hp
        rcases (mem_putP HA.out.1 _ _ p).1 hp with rfl | ⟨hp, _⟩
        · exact pairB_drawn HXM.out HYM.out
        · exact HA.out.2 p hp
      case measure => simp [intOf]; omega
    · go_wp2
      go_ret
      exact ⟨q, c, l, rfl, ⟨by omega, HA.out.1, HA.out.2⟩, HO.out, HS.out.more (by omega), HG.out⟩
end Go.Proofs.Ytlfnpnkpjdmonaa
