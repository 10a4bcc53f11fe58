import Derived.Test.YtlfnpnkpjdmonaaDoorMsgLaw
set_option linter.unusedVariables false
set_option linter.unusedSimpArgs false
namespace Go.Proofs.YtlfnpnkpjdmonaaDoor
open Go.RowKit

/-! ### the library's Cut, in the words of MsgLaw -/
/-- the library's variable holds some number -/
def ML (w : World) : Prop := ∃ m : Int, w.cell? ⟨0, 0, none⟩ = some (.int .i64 m)
theorem ML.below {w w' : World} (h : ML w) (hb : Below w.heap.size w w') : ML w' := by
  obtain ⟨m, hm⟩ := h
  exact ⟨m, (hb.cell (p := ⟨0, 0, none⟩) (block_lt_of_cell hm)).trans hm⟩
theorem cut_some {sep l : List UInt8} {p : List UInt8 × List UInt8} (h : cutS sep l = some p) (hs : sep ≠ []) (w : World) (hm : ML w) (hl : l.length < 4294967281) :
    Calls Tryd.prog 62 #[.string (bs l), .string ⟨sep.toArray⟩] w fun e w' => e = .returned (.tuple #[.string (bs p.1), .string (bs p.2), .bool true]) ∧ Below w.heap.size w w' := by
  obtain ⟨m, hm⟩ := hm
  refine (Tryd.strings_Cut (bs l) ⟨sep.toArray⟩ m w (by simpa [ByteArray.size] using hl) hm).mono ?_
  rintro e w' ⟨rfl, n, rfl⟩
  have e1 : Go.Lib.cut (bs l).data.toList (⟨sep.toArray⟩ : ByteArray).data.toList = (p.1, p.2, true) := by
    show Go.Lib.cut l sep = _
    rw [index_cutS sep hs l, h]
  rw [e1]
  exact ⟨rfl, below_drewN (Below.refl _ _) n⟩
theorem cut_none {sep l : List UInt8} (h : cutS sep l = none) (hs : sep ≠ []) (w : World) (hm : ML w) (hl : l.length < 4294967281) :
    Calls Tryd.prog 62 #[.string (bs l), .string ⟨sep.toArray⟩] w fun e w' => e = .returned (.tuple #[.string (bs l), .string (bs []), .bool false]) ∧ Below w.heap.size w w' := by
  obtain ⟨m, hm⟩ := hm
  refine (Tryd.strings_Cut (bs l) ⟨sep.toArray⟩ m w (by simpa [ByteArray.size] using hl) hm).mono ?_
  rintro e w' ⟨rfl, n, rfl⟩
  have e1 : Go.Lib.cut (bs l).data.toList (⟨sep.toArray⟩ : ByteArray).data.toList = (l, [], false) := by
    show Go.Lib.cut l sep = _
    rw [index_cutS sep hs l, h]
  rw [e1]
  exact ⟨rfl, below_drewN (Below.refl _ _) n⟩

/-! ### a message that is being read -/
theorem infoField : (Tryd.prog.info? 49).map (fun i => (i.zero, i.size, i.bytes)) = some (some (.agg #[.string ⟨#[]⟩, .string ⟨#[]⟩]), 2, 32) := by kernel_rfl
theorem elField : ElT Tryd.prog 26 49 2 32 := by
  obtain ⟨i, hi, hz, hs, hb⟩ := info_parts infoField
  exact ⟨i, _, Tryd.underlying26, hi, hz, hs, hb, rfl, by decide⟩
@[reducible] def msgV (A : Option Addr) (n c : Nat) (b : ByteArray) : Value := .agg #[.slice A n c, .string b]
def MsgPost (n : Nat) (o : Option (List Pr × List UInt8)) (w : World) (e : Ending) (w' : World) : Prop :=
  ∃ (fs : List Pr) (b : ByteArray) (A : Option Addr) (c : Nat), e = .returned (.tuple #[msgV A fs.length c b, .bool o.isSome]) ∧ (∀ p, o = some p → p.1 = fs ∧ bs p.2 = b) ∧ (fs.length ≤ n ∧ b.size ≤ n ∧ ∀ p ∈ fs, p.1.size ≤ n ∧ p.2.size ≤ n) ∧ w'.ownsRow w.heap.size 49 2 (.slice A fs.length c) fs.length (flat encP fs) ∧ Below w.heap.size w w'
structure MB (w wr : World) (v : Value) (fs : List Pr) : Prop where
  res : wr.heap[w.heap.size]? = some (.cells #[.slice none 0 0, .string ⟨#[]⟩] 28 (0, 0))
  box : wr.heap[w.heap.size + 1]? = some (.cells #[v, .string ⟨#[]⟩] 28 (0, 0))
  own : wr.ownsRow (w.heap.size + 2) 49 2 v fs.length (flat encP fs)
  below : Below w.heap.size w wr
theorem MB.lt {w wr : World} {v : Value} {fs : List Pr} (h : MB w wr v fs) : w.heap.size + 1 < wr.heap.size := (Array.getElem?_eq_some_iff.1 h.box).1
theorem MB.old {w wr w' : World} {v : Value} {fs : List Pr} (h : MB w wr v fs) (hb : Below wr.heap.size wr w') : MB w w' v fs := by
  have := h.lt
  exact ⟨(hb.block _ (by omega)).trans h.res, (hb.block _ (by omega)).trans h.box, own_below h.own hb, below_after h.below hb⟩
theorem MB.cells {w wr : World} {v : Value} {fs : List Pr} (h : MB w wr v fs) : wr.cell? ⟨w.heap.size, 0, none⟩ = some (.slice none 0 0) ∧ wr.cell? ⟨w.heap.size, 1, none⟩ = some (.string ⟨#[]⟩) ∧ wr.cell? ⟨w.heap.size + 1, 0, none⟩ = some v ∧ wr.cell? ⟨w.heap.size + 1, 1, none⟩ = some (.string ⟨#[]⟩) ∧ (∀ i, wr.frozen? ⟨w.heap.size, i, none⟩ = false) ∧ ∀ i, wr.frozen? ⟨w.heap.size + 1, i, none⟩ = false :=
  ⟨by rw [cell_of_row wr _ 0 _ _ _ h.res]; rfl, by rw [cell_of_row wr _ 1 _ _ _ h.res]; rfl, by rw [cell_of_row wr _ 0 _ _ _ h.box]; rfl, by rw [cell_of_row wr _ 1 _ _ _ h.box]; rfl, fun i => Lib.frozen_of_heap h.res i, fun i => Lib.frozen_of_heap h.box i⟩
theorem MB.start (w : World) : MB w ((w.alloc (.cells #[.slice none 0 0, .string ⟨#[]⟩] 28)).alloc (.cells #[.slice none 0 0, .string ⟨#[]⟩] 28)) (.slice none 0 0) [] := by
  refine ⟨?_, ?_, own_nilRow _ _ _ _, by repeat (first | exact Below.refl _ _ | assumption | refine Below.drew ?_ | refine below_drewN ?_ _ | refine Below.setCell ?_ (by first | exact Nat.le_refl _ | exact Below.size (by assumption) | (simp; done) | (simp; omega) | omega) _ | refine Below.alloc ?_ (by first | exact Nat.le_refl _ | exact Below.size (by assumption) | (simp; done) | (simp; omega) | omega) _)⟩
  · exact (Below.heap_alloc _ _ _ (by simp)).trans (heap_alloc_new _ _)
  · have h := heap_alloc_new (w.alloc (.cells #[.slice none 0 0, .string ⟨#[]⟩] 28)) (.cells #[.slice none 0 0, .string ⟨#[]⟩] 28)
    rwa [World.size_alloc] at h
theorem MB.start0 (w : World) (h : 0 = 0) : MB w ((w.alloc (.cells #[.slice none 0 0, .string ⟨#[]⟩] 28)).alloc (.cells #[.slice none 0 0, .string ⟨#[]⟩] 28)) (.slice none 0 0) [] := MB.start w
theorem heap_setCell_at {w : World} {g T : Nat} {cs : Array Value} {k : Nat} (h : w.heap[k]? = some (.cells cs T (0, 0))) (i : Nat) (u : Value) (hg : g ≠ k) : (w.setCell ⟨g, i, none⟩ u).heap[k]? = some (.cells cs T (0, 0)) := (Below.heap_setCell w ⟨g, i, none⟩ u k (fun e => hg e.symm)).trans h
/-- the answer is stored: its cells, its row -/
theorem MB.out {w wr : World} {v : Value} {fs : List Pr} (h : MB w wr v fs) (u b : Value) :
    let W := (wr.setCell ⟨w.heap.size, 0, none⟩ u).setCell ⟨w.heap.size, 1, none⟩ b
    W.cell? ⟨w.heap.size, 0, none⟩ = some u ∧ W.cell? ⟨w.heap.size, 1, none⟩ = some b ∧ W.ownsRow w.heap.size 49 2 v fs.length (flat encP fs) ∧ Below w.heap.size w W := by
  intro W
  have e1 := heap_setCell_same wr w.heap.size 0 _ _ u h.res
  have e2 : W.heap[w.heap.size]? = some (.cells #[u, b] 28 (0, 0)) := by
    have := heap_setCell_same _ w.heap.size 1 _ _ b e1
    simpa using this
  refine ⟨by rw [cell_of_row W _ 0 _ _ _ e2]; rfl, by rw [cell_of_row W _ 1 _ _ _ e2]; rfl, ?_, ?_⟩
  · exact own_mono (ownSet (ownSet h.own (by omega) 0 u) (by omega) 1 b) (by omega)
  · exact (h.below.setCell (p := ⟨w.heap.size, 0, none⟩) (Nat.le_refl _) _).setCell (p := ⟨w.heap.size, 1, none⟩) (Nat.le_refl _) _
/-- the body is stored into what is read -/
theorem MB.body {w wr : World} {v : Value} {fs : List Pr} (h : MB w wr v fs) (b : Value) :
    let W := wr.setCell ⟨w.heap.size + 1, 1, none⟩ b
    W.cell? ⟨w.heap.size + 1, 0, none⟩ = some v ∧ W.cell? ⟨w.heap.size + 1, 1, none⟩ = some b ∧ W.cell? ⟨w.heap.size, 0, none⟩ = some (.slice none 0 0) ∧ W.cell? ⟨w.heap.size, 1, none⟩ = some (.string ⟨#[]⟩) ∧ (∀ i, W.frozen? ⟨w.heap.size, i, none⟩ = false) ∧ ∀ u c,
    let X := (W.setCell ⟨w.heap.size, 0, none⟩ u).setCell ⟨w.heap.size, 1, none⟩ c
    X.cell? ⟨w.heap.size, 0, none⟩ = some u ∧ X.cell? ⟨w.heap.size, 1, none⟩ = some c ∧ X.ownsRow w.heap.size 49 2 v fs.length (flat encP fs) ∧ Below w.heap.size w X := by
  intro W
  have r1 : W.heap[w.heap.size]? = some (.cells #[.slice none 0 0, .string ⟨#[]⟩] 28 (0, 0)) := heap_setCell_at h.res 1 b (by omega)
  have b1 : W.heap[w.heap.size + 1]? = some (.cells #[v, b] 28 (0, 0)) := by
    have := heap_setCell_same wr (w.heap.size + 1) 1 _ _ b h.box
    simpa using this
  refine ⟨by rw [cell_of_row W _ 0 _ _ _ b1]; rfl, by rw [cell_of_row W _ 1 _ _ _ b1]; rfl, by rw [cell_of_row W _ 0 _ _ _ r1]; rfl, by rw [cell_of_row W _ 1 _ _ _ r1]; rfl, fun i => Lib.frozen_of_heap r1 i, fun u c => ?_⟩
  intro X
  have e1 := heap_setCell_same W w.heap.size 0 _ _ u r1
  have e2 : X.heap[w.heap.size]? = some (.cells #[u, c] 28 (0, 0)) := by
    have := heap_setCell_same _ w.heap.size 1 _ _ c e1
    simpa using this
  refine ⟨by rw [cell_of_row X _ 0 _ _ _ e2]; rfl, by rw [cell_of_row X _ 1 _ _ _ e2]; rfl, ?_, ?_⟩
  · exact own_mono (ownSet (ownSet (ownSet h.own (by omega) 1 b) (by omega) 0 u) (by omega) 1 c) (by omega)
  · exact ((h.below.setCell (p := ⟨w.heap.size + 1, 1, none⟩) (by show _ ≤ _; dsimp only; omega) _).setCell (p := ⟨w.heap.size, 0, none⟩) (Nat.le_refl _) _).setCell (p := ⟨w.heap.size, 1, none⟩) (Nat.le_refl _) _
/-- a field is pushed -/
theorem MB.push {w wr w3 : World} {v v' : Value} {fs : List Pr} {f : Pr} {u : Value} (h : MB w wr v fs) (hp : Pushed (w.heap.size + 2) 49 2 v (fs.length + 1) (flat encP fs ++ encP f) wr v' w3) (hu : u = v') : MB w (w3.setCell ⟨w.heap.size + 1, 0, none⟩ u) v' (fs ++ [f]) := by
  subst hu
  have hlt := h.lt
  have hk : ∀ k, k < w.heap.size + 2 → k < wr.heap.size → w3.heap[k]? = wr.heap[k]? := fun k h1 h2 => hp.2.block k h2 (fun e => by have := (h.own.lt k e.symm).1; omega)
  have r1 := (hk w.heap.size (by omega) (by omega)).trans h.res
  have b1 := (hk (w.heap.size + 1) (by omega) (by omega)).trans h.box
  refine ⟨heap_setCell_at r1 0 u (by omega), ?_, ?_, ?_⟩
  · have := heap_setCell_same w3 (w.heap.size + 1) 0 _ _ u b1
    simpa using this
  · refine ownSet ?_ (by omega) 0 u
    rw [flat_append, List.length_append, flat_cons, flat_nil, List.append_nil]
    exact hp.1
  · exact (hp.below' h.own h.below (by omega) (by omega)).setCell (p := ⟨w.heap.size + 1, 0, none⟩) (by show _ ≤ _; dsimp only; omega) _
theorem MB.pushedCells {w wr w3 : World} {v v' : Value} {n : Nat} {fs : List Pr} {ys : List Value} (h : MB w wr v fs) (hp : Pushed (w.heap.size + 2) 49 2 v n ys wr v' w3) : w3.cell? ⟨w.heap.size + 1, 0, none⟩ = some v ∧ ∀ i, w3.frozen? ⟨w.heap.size + 1, i, none⟩ = false := by
  have hlt := h.lt
  have b1 : w3.heap[w.heap.size + 1]? = _ := (hp.2.block (w.heap.size + 1) (by omega) (fun e => by have := (h.own.lt _ e.symm).1; omega)).trans h.box
  exact ⟨by rw [cell_of_row w3 _ 0 _ _ _ b1]; rfl, fun i => Lib.frozen_of_heap b1 i⟩
def lenOf' : Value → Nat | .string s => s.size | _ => 0
end Go.Proofs.YtlfnpnkpjdmonaaDoor
