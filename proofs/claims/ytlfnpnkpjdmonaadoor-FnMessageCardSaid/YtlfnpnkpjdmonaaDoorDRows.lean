import Derived.Test.YtlfnpnkpjdmonaaDoorDMark
import Derived.Deep.QuietTactic
import Derived.BigQuiet
import Derived.Deep.RegionHeld3
import Derived.Laws.MakeOwn
import Derived.Laws.StructEq
import Derived.Laws.IdiomCopy
import Derived.Lib.Builder
import Derived.Lib.ConvBytes
set_option linter.unusedVariables false
set_option linter.unusedSimpArgs false
namespace Go.Proofs.YtlfnpnkpjdmonaaDoor
open Go.RowKit

/-! ### rows, texts, pairs: what needs no function of the program -/
@[reducible] def bv (c : UInt8) : Value := .int .u8 (c.toNat : Int)
@[reducible] def bs (l : List UInt8) : ByteArray := ⟨l.toArray⟩
theorem map_at {α : Type} {f : α → Value} {xs : List α} {i : Nat} (h : i < xs.length) : (xs.map f)[i]? = some (f xs[i]) := by simp [h]

theorem bytes_of_eq {a b : ByteArray} (h : (a.toList == b.toList) = true) : a = b := by
  rw [ByteArray.toList_eq, ByteArray.toList_eq] at h
  exact Go.WideShapes.bytes_inj (by simpa using h)
theorem take_eq_succ {α : Type} {xs ys : List α} {k : Nat} (h1 : k < xs.length) (h2 : k < ys.length) (h : xs.take k = ys.take k) (he : xs[k] = ys[k]) : xs.take (k + 1) = ys.take (k + 1) := by
  rw [List.take_succ_eq_append_getElem h1, List.take_succ_eq_append_getElem h2, h, he]
theorem infoString : (Tryd.prog.info? 9).map (fun i => (i.zero, i.size, i.bytes)) = some (some (.string ⟨#[]⟩), 1, 16) := by kernel_rfl

theorem own_none {w : World} {base : Nat} {e : TypeId} {size n c : Nat} {xs : List Value} (h : w.ownsRow base e size (.slice none n c) n xs) : n = 0 ∧ xs = [] := by
  have hn : n = 0 := by
    rcases h.2 with ⟨_, hn⟩ | ⟨g, cap, cur, hv, _⟩
    · exact hn
    · cases hv
  subst hn
  exact ⟨rfl, List.eq_nil_of_length_eq_zero (by simpa using h.1)⟩
theorem infoByte : (Tryd.prog.info? 5).map (fun i => (i.zero, i.size, i.bytes)) = some (some (.int .u8 0), 1, 1) := by kernel_rfl

theorem bs_data (l : List UInt8) : (bs l).data.toList = l := by simp
theorem bs_take (l : List UInt8) (n : Nat) : (bs l).extract 0 n = bs (l.take n) := Go.WideShapes.bytes_inj (by simp [ByteArray.data_extract])
theorem bs_drop (l : List UInt8) (n : Nat) : (bs l).extract n l.length = bs (l.drop n) := Go.WideShapes.bytes_inj (by simp [ByteArray.data_extract]; rw [List.take_of_length_le (by simp)])

theorem bs_append (a b : List UInt8) : bs a ++ bs b = bs (a ++ b) := Go.WideShapes.bytes_inj (by simp)
theorem bs_of (a : ByteArray) : bs a.toList = a := Go.WideShapes.bytes_inj (by rw [List.toList_toArray, ByteArray.toList_eq])
theorem addr_lit (g o j : Nat) : (⟨g, o, none⟩ : Addr).add j = ⟨g, o + j, none⟩ := by
  unfold Addr.add
  by_cases h0 : j = 0 <;> simp [h0]
theorem rd_alloc (w : World) (cs : List Value) (arr : Array Value) (t : TypeId) (g : Nat) (hg : g = w.heap.size) (h : arr = cs.toArray) : Rd (w.alloc (.cells arr t)) (w.alloc (.cells arr t)).heap.size (some ⟨g, 0, none⟩) cs := fun _ => by
  subst h hg
  refine ⟨_, rfl, by simp, fun j u hj => ?_⟩
  rw [addr_lit, Nat.zero_add, cell_of_row _ _ j _ _ _ (heap_alloc_new _ _)]
  simpa using hj
theorem bs_cut (l : List UInt8) (a b : Nat) : (bs l).extract a b = bs ((l.drop a).take (b - a)) := Go.WideShapes.bytes_inj (by simp [ByteArray.data_extract])
abbrev Pr := ByteArray × ByteArray
def encP (p : Pr) : List Value := [.string p.1, .string p.2]
@[reducible] def prV (p : Pr) : Value := .agg #[.string p.1, .string p.2]
theorem encP_len (p : Pr) : (encP p).length = 2 := rfl
theorem pr_at {l : List Pr} {i : Nat} (h : i < l.length) : (flat encP l)[i * 2]? = some (.string l[i].1) ∧ (flat encP l)[i * 2 + 1]? = some (.string l[i].2) :=
  ⟨by simpa using flat_get (j := 0) encP_len (List.getElem?_eq_getElem h) rfl, flat_get (j := 1) encP_len (List.getElem?_eq_getElem h) rfl⟩
theorem add_next (a : Addr) (i : Nat) : a.add (i + 1) = ⟨(a.add i).block, (a.add i).off + 1, none⟩ := by
  unfold Addr.add
  by_cases hi : i = 0 <;> simp [hi]
  all_goals first | rfl | omega
theorem Rd.pr {w : World} {B : Nat} {A : Option Addr} {l : List Pr} (h : Rd w B A (flat encP l)) {i : Nat} (hi : i < l.length) : ∃ ad, A = some ad ∧ ad.block < B ∧ w.cell? (ad.add (i * 2)) = some (.string l[i].1) ∧ w.cell? ⟨(ad.add (i * 2)).block, (ad.add (i * 2)).off + 1, none⟩ = some (.string l[i].2) := by
  obtain ⟨ad, e, hb, hc⟩ := h (by
    intro h0
    have := flat_length encP_len l
    rw [h0] at this
    simp at this
    omega)
  exact ⟨ad, e, hb, hc _ _ (pr_at hi).1, add_next ad (i * 2) ▸ hc _ _ (pr_at hi).2⟩
theorem eqP_iff {p q : Pr} {r : Bool} (h : ((p.1.toList == q.1.toList) && (p.2.toList == q.2.toList)) = r) : decide (p = q) = r := by
  subst h
  rw [Bool.eq_iff_iff]
  simp only [decide_eq_true_eq, Bool.and_eq_true]
  constructor
  · rintro rfl; simp
  · rintro ⟨h1, h2⟩
    exact Prod.ext (bytes_of_eq h1) (bytes_of_eq h2)

/-- the cells vs laid from o on -/
def putAt (L : List Value) (o : Nat) (vs : List Value) : List Value := L.take o ++ (vs ++ L.drop (o + vs.length))
theorem putAt_nil (L : List Value) (o : Nat) : putAt L o [] = L := by simp [putAt]
theorem putAt_length (L : List Value) (o : Nat) (vs : List Value) (h : o + vs.length ≤ L.length) : (putAt L o vs).length = L.length := by
  simp [putAt]; omega
theorem putAt_cons (L : List Value) (o : Nat) (v : Value) (vs : List Value) (h : o + vs.length + 1 ≤ L.length) : putAt (L.set o v) (o + 1) vs = putAt L o (v :: vs) := by
  unfold putAt
  rw [List.length_cons, show o + (vs.length + 1) = o + 1 + vs.length from by omega, List.drop_set_of_lt (by omega), List.take_set, List.take_succ_eq_append_getElem (by omega : o < L.length)]
  rw [List.set_append, if_neg (by simp; omega)]
  simp [show min o L.length = o from by omega]
theorem own_setCells {w : World} {base : Nat} {e : TypeId} {size g n cap : Nat} : ∀ (vs : List Value) (o : Nat) (xs : List Value) (w : World), w.ownsRow base e size (.slice (some ⟨g, 0, none⟩) n cap) n xs → o + vs.length ≤ xs.length →
    (w.setCells g o vs).ownsRow base e size (.slice (some ⟨g, 0, none⟩) n cap) n (putAt xs o vs) ∧ w.grownBy (w.setCells g o vs) (some g)
  | [], o, xs, w, h, _ => by rw [putAt_nil]; exact ⟨h, World.grownBy.refl _ _⟩
  | v :: vs, o, xs, w, h, hl => by
    rw [List.length_cons] at hl
    obtain ⟨h1, h2⟩ := h.stored o v
    obtain ⟨h3, h4⟩ := own_setCells (w := w) vs (o + 1) _ _ h1 (by simp; omega)
    rw [putAt_cons _ _ _ _ (by omega)] at h3
    exact ⟨h3, grown_after h2 h4⟩
theorem below_setCells {B g : Nat} (hg : B ≤ g) {a : World} : ∀ (vs : List Value) (o : Nat) (w : World), Below B a w → Below B a (w.setCells g o vs)
  | [], _, _, h => h
  | v :: vs, o, _, h => below_setCells hg vs (o + 1) _ (h.setCell (p := ⟨g, o, none⟩) hg v)

section
variable {α : Type} {enc : α → List Value} {s : Nat}
/-- the element k of a row whose first k elements are done -/
theorem put_elem (hk : ∀ x, (enc x).length = s) (l : List α) (x : α) (Z : List Value) (hZ : s ≤ Z.length) : putAt (flat enc l ++ Z) (l.length * s) (enc x) = flat enc (l ++ [x]) ++ Z.drop s := by
  have e : (flat enc l).length = l.length * s := flat_length hk l
  unfold putAt
  rw [List.take_append_of_le_length (by omega), List.take_of_length_le (by omega), hk, List.drop_append, e, List.drop_of_length_le (by omega), List.nil_append, show l.length * s + s - l.length * s = s from by omega, flat_append, List.append_assoc]
  congr 1
  rw [flat_cons, flat_nil, List.append_nil]
end

theorem ownLen {w : World} {base : Nat} {e : TypeId} {size : Nat} {v : Value} {n : Nat} {xs : List Value} (h : w.ownsRow base e size v n xs) : ∃ A c, v = .slice A n c := by
  obtain ⟨A, c, h1, _⟩ := own_form h
  exact ⟨A, c, h1⟩
theorem ownSet {w : World} {base : Nat} {e : TypeId} {size n : Nat} {v : Value} {xs : List Value} (h : w.ownsRow base e size v n xs) {k : Nat} (hk : k < base) (i : Nat) (u : Value) : (w.setCell ⟨k, i, none⟩ u).ownsRow base e size v n xs :=
  ownsRow_setCell_below h hk u
theorem grown_set (w : World) (g i : Nat) (v : Value) : w.grownBy (w.setCell ⟨g, i, none⟩ v) (some g) :=
  ⟨rfl, rfl, rfl, by simp, fun k hk hn => heap_setCell_other w _ k v (fun e => hn (by rw [e]))⟩
theorem own_nilRow (w : World) (base e size : Nat) : w.ownsRow base e size (.slice none 0 0) 0 [] := ⟨by simp, .inl ⟨rfl, rfl⟩⟩
theorem own_ne_blk {w : World} {base e size n g T : Nat} {v : Value} {xs : List Value} {cs : Array Value} {fr : Nat × Nat} (h : w.ownsRow base e size v n xs) (hg : w.heap[g]? = some (.cells cs T fr)) (hT : T ≠ e) : v.ownBlock ≠ some g := by
  rcases h.2 with ⟨rfl, _⟩ | ⟨g', cap, cur, rfl, _, hg', _⟩
  · simp [Value.ownBlock]
  · intro e1
    simp only [Value.ownBlock, Option.some.injEq] at e1
    subst e1
    rw [hg] at hg'
    injection hg' with hg'
    injection hg' with _ h2 _
    exact hT h2
end Go.Proofs.YtlfnpnkpjdmonaaDoor
