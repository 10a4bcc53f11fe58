import Derived.Test.YtlfnpnkpjdmonaaPairs2
import Derived.Laws.IdiomCopy
set_option linter.unusedVariables false
set_option linter.unusedSimpArgs false
namespace Go.Proofs.Ytlfnpnkpjdmonaa
open Go.RowKit

/-! ### rows of elements of several cells, written element by element -/
/-- the cells vs laid from o on -/
def putAt (L : List Value) (o : Nat) (vs : List Value) : List Value := L.take o ++ (vs ++ L.drop (o + vs.length))
theorem putAt_nil (L : List Value) (o : Nat) : putAt L o [] = L := by simp [putAt]
theorem putAt_length (L : List Value) (o : Nat) (vs : List Value) (h : o + vs.length ≤ L.length) : (putAt L o vs).length = L.length := by
  simp [putAt]; omega
theorem putAt_cons (L : List Value) (o : Nat) (v : Value) (vs : List Value) (h : o + vs.length + 1 ≤ L.length) : putAt (L.set o v) (o + 1) vs = putAt L o (v :: vs) := by
  unfold putAt
  rw [List.length_cons, show o + (vs.length + 1) = o + 1 + vs.length from by omega, List.drop_set_of_lt (by omega), List.take_set, List.take_succ_eq_append_getElem (by omega : o < L.length)]
  rw [List.set_append, if_neg (by simp; omega)]
  simp [show min o L.length = o from by omega]
theorem own_setCells {w : World} {base : Nat} {e : TypeId} {size g n cap : Nat} : ∀ (vs : List Value) (o : Nat) (xs : List Value) (w : World), w.ownsRow base e size (.slice (some ⟨g, 0, none⟩) n cap) n xs → o + vs.length ≤ xs.length →
    (w.setCells g o vs).ownsRow base e size (.slice (some ⟨g, 0, none⟩) n cap) n (putAt xs o vs) ∧ w.grownBy (w.setCells g o vs) (some g)
  | [], o, xs, w, h, _ => by rw [putAt_nil]; exact ⟨h, World.grownBy.refl _ _⟩
  | v :: vs, o, xs, w, h, hl => by
    rw [List.length_cons] at hl
    obtain ⟨h1, h2⟩ := h.stored o v
    obtain ⟨h3, h4⟩ := own_setCells (w := w) vs (o + 1) _ _ h1 (by simp; omega)
    rw [putAt_cons _ _ _ _ (by omega)] at h3
    exact ⟨h3, grown_after h2 h4⟩
theorem below_setCells {B g : Nat} (hg : B ≤ g) {a : World} : ∀ (vs : List Value) (o : Nat) (w : World), Below B a w → Below B a (w.setCells g o vs)
  | [], _, _, h => h
  | v :: vs, o, _, h => below_setCells hg vs (o + 1) _ (h.setCell (p := ⟨g, o, none⟩) hg v)

section
variable {α : Type} {enc : α → List Value} {s : Nat}
/-- the element k of a row whose first k elements are done -/
theorem put_elem (hk : ∀ x, (enc x).length = s) (l : List α) (x : α) (Z : List Value) (hZ : s ≤ Z.length) : putAt (flat enc l ++ Z) (l.length * s) (enc x) = flat enc (l ++ [x]) ++ Z.drop s := by
  have e : (flat enc l).length = l.length * s := flat_length hk l
  unfold putAt
  rw [List.take_append_of_le_length (by omega), List.take_of_length_le (by omega), hk, List.drop_append, e, List.drop_of_length_le (by omega), List.nil_append, show l.length * s + s - l.length * s = s from by omega, flat_append, List.append_assoc]
  congr 1
  rw [flat_cons, flat_nil, List.append_nil]
end

theorem ownLen {w : World} {base : Nat} {e : TypeId} {size : Nat} {v : Value} {n : Nat} {xs : List Value} (h : w.ownsRow base e size v n xs) : ∃ A c, v = .slice A n c := by
  obtain ⟨A, c, h1, _⟩ := own_form h
  exact ⟨A, c, h1⟩
theorem ownSet {w : World} {base : Nat} {e : TypeId} {size n : Nat} {v : Value} {xs : List Value} (h : w.ownsRow base e size v n xs) {k : Nat} (hk : k < base) (i : Nat) (u : Value) : (w.setCell ⟨k, i, none⟩ u).ownsRow base e size v n xs :=
  ownsRow_setCell_below h hk u
theorem infoPair : (Try.prog.info? 82).map (fun i => (i.zero, i.size, i.bytes)) = some (some (.agg #[.string ⟨#[]⟩, .string ⟨#[]⟩]), 2, 32) := by kernel_rfl

set_option maxRecDepth 100000 in
theorem toPairS_any (A : Option Addr) (c : Nat) (xs : List Pr) (w : World) (hx : Rd w w.heap.size A (flat encP xs)) (hl : xs.length ≤ 1048576) :
    Calls Try.prog 117 #[.slice A xs.length c] w fun e w' => ∃ v, e = .returned v ∧ w'.ownsRow w.heap.size 82 2 v xs.length (flat encP xs) ∧ Below w.heap.size w w' := by
  obtain ⟨i0, hi, hz0, hz1, hz2⟩ := info_parts infoPair
  have HX := Lib.hid hx
  clear hx
  have hz2' : i0.bytes * xs.length ≤ 281474976710656 := by rw [hz2]; omega
  have HI := Lib.hid (And.intro hi (And.intro hz0 (And.intro hz1 hz2')))
  clear hi hz0 hz1 hz2 hz2'
  go_enter Try.func117, Try.ntmps117
  go_wp2_with (at_make; refine wpList_make_full _ rfl _ _ _ rfl w.heap.size 82 i0 (.agg #[.string ⟨#[]⟩, .string ⟨#[]⟩]) 2 Try.underlying59 HI.out.1 HI.out.2.1 HI.out.2.2.1 _ _ _ _ xs.length rfl rfl rfl rfl HI.out.2.2.2 (by simp only [maxLen]; omega) (Nat.le_refl _) ?_; intro w1 hown1 hg1)
  have hZ : (madeCells (Value.agg #[.string ⟨#[]⟩, .string ⟨#[]⟩]).cells (xs.length * 2)).toList.length = xs.length * 2 := by simp [madeCells]
  generalize hgz : (madeCells (Value.agg #[.string ⟨#[]⟩, .string ⟨#[]⟩]).cells (xs.length * 2)).toList = Z at *
  have hown2 : w1.ownsRow w.heap.size 82 2 (.slice (some ⟨w.heap.size, 0, none⟩) xs.length xs.length) xs.length (flat encP (xs.take 0) ++ Z) := hown1
  have HO := Lib.hid hown2
  have HZ := Lib.hid hZ
  have hb1 : Below w.heap.size w w1 := below_grown none hg1 (Nat.le_refl _) (by simp)
  have hq1 : w.heap.size < w1.heap.size := (hown2.lt _ rfl).2
  clear hown1 hown2 hg1 hgz hZ
  go_wp2
  go_loopw [4] (fun i wr => ∃ (k : Nat) (Z : List Value), k ≤ xs.length ∧ i = .int .i64 k ∧ Z.length = (xs.length - k) * 2 ∧ wr.ownsRow w.heap.size 82 2 (.slice (some ⟨w.heap.size, 0, none⟩) xs.length xs.length) xs.length (flat encP (xs.take k) ++ Z) ∧ Below w.heap.size w wr) (fun i _ => xs.length - (intOf i).toNat)
  case atStart => exact ⟨0, Z, Nat.zero_le _, rfl, HZ.out, HO.out, hb1⟩
  case round =>
    obtain ⟨k, Z, hk, rfl, hZ, ho, hb⟩ := hrel
    have HK := Lib.hid ho
    have HZ2 := Lib.hid hZ
    clear ho HO HZ hZ
    by_cases hlt : k < xs.length
    · obtain ⟨ad, rfl, hbl, hca, hcb⟩ := (HX.out.below hb).pr hlt
      go_wp2_with fail
      refine (toPair_any xs[k] _).mono ?_
      rintro e w2 ⟨rfl, hb2⟩
      have ho2 := own_below HK.out hb2
      have hb3 := below_after hb hb2
      have hfl : (flat encP (List.take k xs) ++ Z).length = xs.length * 2 := ho2.1
      have hce0 : ∃ u, w2.cell? ⟨w.heap.size, k * 2, none⟩ = some u := by
        rw [ho2.cellAt (k * 2) (by omega)]
        exact ⟨_, List.getElem?_eq_getElem (by omega)⟩
      have hce1 : ∃ u, w2.cell? ⟨w.heap.size, k * 2 + 1, none⟩ = some u := by
        rw [ho2.cellAt (k * 2 + 1) (by omega)]
        exact ⟨_, List.getElem?_eq_getElem (by omega)⟩
      obtain ⟨u0, hcu0⟩ := hce0
      obtain ⟨u1, hcu1⟩ := hce1
      have hfr0 := ho2.frozenAt (k * 2)
      have hfr1 := ho2.frozenAt (k * 2 + 1)
      have HO2 := Lib.hid ho2
      have HF := Lib.hid hfl
      clear ho2 hfl hca hcb hb2 HK
      go_wp2
      go_roundw
      case rel =>
        have hfit := HF.out
        have hZl := HZ2.out
        refine ⟨k + 1, Z.drop 2, by omega, by go_num, by simp; omega, ?_, below_setCells (Nat.le_refl _) [.string xs[k].1, .string xs[k].2] (k * 2) _ hb3⟩
        have h := (own_setCells (w := w2) [.string xs[k].1, .string xs[k].2] (k * 2) _ _ HO2.out (by simp only [List.length_cons, List.length_nil]; omega)).1
        have e := put_elem encP_len (xs.take k) xs[k] Z (by omega)
        rw [List.length_take, show min k xs.length = k from by omega, ← List.take_succ_eq_append_getElem hlt] at e
        rw [← e]
        exact h
      case measure => simp [intOf]; omega
    · go_wp2
      go_ret
      refine ⟨_, rfl, ?_, hb⟩
      have h := HK.out
      have hZl := HZ2.out
      obtain rfl : Z = [] := List.eq_nil_of_length_eq_zero (by rw [hZl]; omega)
      rw [List.append_nil, List.take_of_length_le (by omega)] at h
      exact h
end Go.Proofs.Ytlfnpnkpjdmonaa
