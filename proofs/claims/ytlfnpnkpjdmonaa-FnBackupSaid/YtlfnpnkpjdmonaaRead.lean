import Derived.Test.YtlfnpnkpjdmonaaReadLaw
import Derived.Test.YtlfnpnkpjdmonaaDiffW
import Derived.Test.YtlfnpnkpjdmonaaPrefix
import Derived.Test.YtlfnpnkpjdmonaaReplay
set_option linter.unusedVariables false
set_option linter.unusedSimpArgs false
namespace Go.Proofs.Ytlfnpnkpjdmonaa
open Go.RowKit

/-! ### reading a backup: the program -/
theorem keepSet {w : World} {p a : Addr} {u v : Value} (hne : p.block ≠ a.block) (h : w.cell? p = some u) : (w.setCell a v).cell? p = some u := (World.cell?_of_block (heap_setCell_other _ _ _ _ hne)).trans h
theorem own_ne_blk {w : World} {base e size n g T : Nat} {v : Value} {xs : List Value} {cs : Array Value} {fr : Nat × Nat} (h : w.ownsRow base e size v n xs) (hg : w.heap[g]? = some (.cells cs T fr)) (hT : T ≠ e) : v.ownBlock ≠ some g := by
  rcases h.2 with ⟨rfl, _⟩ | ⟨g', cap, cur, rfl, _, hg', _⟩
  · simp [Value.ownBlock]
  · intro e1
    simp only [Value.ownBlock, Option.some.injEq] at e1
    subst e1
    rw [hg] at hg'
    injection hg' with hg'
    injection hg' with _ h2 _
    exact hT h2
/-- what lies in memory while a backup is read -/
structure RB (w wr : World) (gb : Nat) (l : List UInt8) (bad : Bool) (f t : ByteArray) (ch : Int) (v : Value) (ds : List Df) (sm : Int) : Prop where
  res : wr.heap[w.heap.size]? = some (.cells #[.string ⟨#[]⟩, .string ⟨#[]⟩, .int .i64 0, .slice none 0 0, .int .i64 0] 86 (0, 0))
  tk : Tk wr (w.heap.size + 1) l bad
  box : wr.heap[gb]? = some (.cells #[.string f, .string t, .int .i64 ch, v, .int .i64 sm] 86 (0, 0))
  own : wr.ownsRow w.heap.size 145 5 v ds.length (flat encD ds)
  below : Below w.heap.size w wr
  gt : w.heap.size + 1 < gb
theorem RB.neT {w wr : World} {gb : Nat} {l : List UInt8} {bad : Bool} {f t : ByteArray} {ch sm : Int} {v : Value} {ds : List Df} (h : RB w wr gb l bad f t ch v ds sm) : v.ownBlock ≠ some (w.heap.size + 1) := own_ne_blk h.own h.tk (by decide)
theorem RB.neB {w wr : World} {gb : Nat} {l : List UInt8} {bad : Bool} {f t : ByteArray} {ch sm : Int} {v : Value} {ds : List Df} (h : RB w wr gb l bad f t ch v ds sm) : v.ownBlock ≠ some gb := own_ne_blk h.own h.box (by decide)
theorem RB.neR {w wr : World} {gb : Nat} {l : List UInt8} {bad : Bool} {f t : ByteArray} {ch sm : Int} {v : Value} {ds : List Df} (h : RB w wr gb l bad f t ch v ds sm) : v.ownBlock ≠ some w.heap.size := own_ne_blk h.own h.res (by decide)
theorem RB.gl {w wr : World} {gb : Nat} {l : List UInt8} {bad : Bool} {f t : ByteArray} {ch sm : Int} {v : Value} {ds : List Df} (h : RB w wr gb l bad f t ch v ds sm) : gb < wr.heap.size := (Array.getElem?_eq_some_iff.1 h.box).1
theorem RB.step {w wr w' : World} {gb : Nat} {l l' : List UInt8} {bad bad' : Bool} {f t : ByteArray} {ch sm : Int} {v : Value} {ds : List Df} (h : RB w wr gb l bad f t ch v ds sm) (hg : wr.grownBy w' (some (w.heap.size + 1))) (ht : Tk w' (w.heap.size + 1) l' bad') : RB w w' gb l' bad' f t ch v ds sm := by
  have h1 := h.gt
  have h2 := h.gl
  exact ⟨(hg.block _ (by omega) (by simp)).trans h.res, ht, (hg.block _ h2 (by simp; omega)).trans h.box, h.own.kept hg (.inr h.neT), h.below.grown hg h.below.size (fun k hk => by injection hk with hk; omega), h1⟩
theorem RB.setBad {w wr : World} {gb : Nat} {l : List UInt8} {bad : Bool} {f t : ByteArray} {ch sm : Int} {v : Value} {ds : List Df} (h : RB w wr gb l bad f t ch v ds sm) (b : Bool) : RB w (wr.setCell ⟨w.heap.size + 1, 1, none⟩ (.bool b)) gb l b f t ch v ds sm := h.step (grown_set _ _ _ _) (h.tk.setBad b)
theorem RB.old {w wr w' : World} {gb : Nat} {l : List UInt8} {bad : Bool} {f t : ByteArray} {ch sm : Int} {v : Value} {ds : List Df} (h : RB w wr gb l bad f t ch v ds sm) (hb : Below wr.heap.size wr w') : RB w w' gb l bad f t ch v ds sm := by
  have h1 := h.gt
  have h2 := h.gl
  exact ⟨(hb.block _ (by omega)).trans h.res, h.tk.kept hb, (hb.block _ h2).trans h.box, own_below h.own hb, below_after h.below hb, h1⟩
theorem RB.drew {w wr : World} {gb : Nat} {l : List UInt8} {bad : Bool} {f t : ByteArray} {ch sm : Int} {v : Value} {ds : List Df} (h : RB w wr gb l bad f t ch v ds sm) : RB w wr.drew gb l bad f t ch v ds sm := ⟨h.res, h.tk, h.box, h.own, h.below.drew, h.gt⟩
theorem and1_i64 (m : Nat) (h : m < 256) : bits .and .i64 (m : Int) 1 = ((m % 2 : Nat) : Int) := by
  have e := bits_and_i64 m 1 (by omega) (by omega)
  rw [show m &&& 1 = m % 2 from Nat.and_one_is_mod m] at e
  exact e
theorem and2_nat : ∀ m, m < 256 → m &&& 2 = m / 2 % 2 * 2 := by decide +kernel
theorem and2_i64 (m : Nat) (h : m < 256) : bits .and .i64 (m : Int) 2 = ((m / 2 % 2 * 2 : Nat) : Int) := by
  have e := bits_and_i64 m 2 (by omega) (by omega)
  rw [and2_nat m h] at e
  exact e
theorem and_bool (m : Nat) : (((m % 2 : Nat) : Int) != 0) = decide (m % 2 = 1) := by
  rcases Nat.mod_two_eq_zero_or_one m with h | h <;> rw [h] <;> rfl
theorem and_bool2 (m : Nat) : (((m / 2 % 2 * 2 : Nat) : Int) != 0) = decide (m / 2 % 2 = 1) := by
  rcases Nat.mod_two_eq_zero_or_one (m / 2) with h | h <;> rw [h] <;> rfl
/-- a field of the backup is written -/
theorem RB.field {w wr : World} {gb : Nat} {l : List UInt8} {bad : Bool} {f t : ByteArray} {ch sm : Int} {v : Value} {ds : List Df} (h : RB w wr gb l bad f t ch v ds sm) (i : Nat) (u : Value) {f' t' : ByteArray} {sm' : Int} (hu : (#[.string f, .string t, .int .i64 ch, v, .int .i64 sm] : Array Value).setIfInBounds i u = #[.string f', .string t', .int .i64 ch, v, .int .i64 sm']) : RB w (wr.setCell ⟨gb, i, none⟩ u) gb l bad f' t' ch v ds sm' := by
  have h1 := h.gt
  refine ⟨(heap_setCell_other _ _ _ _ (by show w.heap.size ≠ gb; omega)).trans h.res, (heap_setCell_other _ _ _ _ (by show w.heap.size + 1 ≠ gb; omega)).trans h.tk, (heap_setCell_same _ _ _ _ _ _ h.box).trans (by rw [hu]), h.own.kept (grown_set _ _ _ _) (.inr h.neB), h.below.setCell (p := ⟨gb, i, none⟩) (by show w.heap.size ≤ gb; omega) _, h1⟩
theorem RB.push {w wr w3 : World} {gb : Nat} {l : List UInt8} {bad : Bool} {f t : ByteArray} {ch sm : Int} {v v' : Value} {ds : List Df} {d : Df} {o : Obj} (h : RB w wr gb l bad f t ch v ds sm) (hp : Pushed w.heap.size 145 5 v (ds.length + 1) (flat encD ds ++ encD d) (wr.alloc o) v' w3) : RB w (w3.setCell ⟨gb, 3, none⟩ v') gb l bad f t ch v' (ds ++ [d]) sm := by
  have h1 := h.gt
  have h2 := h.gl
  have ha : RB w (wr.alloc o) gb l bad f t ch v ds sm := h.old (by repeat (first | exact Below.refl _ _ | assumption | refine Below.drew ?_ | refine below_drewN ?_ _ | refine Below.setCell ?_ (by first | exact Nat.le_refl _ | exact Below.size (by assumption) | (simp; done) | (simp; omega) | omega) _ | refine Below.alloc ?_ (by first | exact Nat.le_refl _ | exact Below.size (by assumption) | (simp; done) | (simp; omega) | omega) _))
  have hz : (wr.alloc o).heap.size = wr.heap.size + 1 := by simp
  have hbx := (hp.2.block gb (by omega) (fun e => ha.neB e.symm)).trans ha.box
  have ho : w3.ownsRow w.heap.size 145 5 v' (ds ++ [d]).length (flat encD (ds ++ [d])) := by
    have := hp.1
    rw [flat_append, List.length_append, flat_cons, flat_nil, List.append_nil]
    exact this
  have hne : v'.ownBlock ≠ some gb := own_ne_blk ho hbx (by decide)
  exact ⟨(heap_setCell_other _ _ _ _ (by show w.heap.size ≠ gb; omega)).trans ((hp.2.block _ (by omega) (fun e => ha.neR e.symm)).trans ha.res), (heap_setCell_other _ _ _ _ (by show w.heap.size + 1 ≠ gb; omega)).trans ((hp.2.block _ (by omega) (fun e => ha.neT e.symm)).trans ha.tk), heap_setCell_same _ _ _ _ _ _ hbx, ho.kept (grown_set _ _ _ _) (.inr hne), (ha.below.grown hp.2 ha.below.size (fun k hk => (ha.own.lt k hk).1)).setCell (p := ⟨gb, 3, none⟩) (by show w.heap.size ≤ gb; omega) _, h1⟩
theorem own_row {w : World} {base e n : Nat} {v : Value} {xs : List (List UInt8)} (h : w.ownsRow base e 1 v n (xs.map sv)) (hn : 0 < n) : ∃ g c, v = .slice (some ⟨g, 0, none⟩) n c ∧ n ≤ c ∧ base ≤ g ∧ g < w.heap.size ∧ (∃ cur, w.heap[g]? = some (.cells cur e (0, 0))) ∧ ∀ j u, xs[j]? = some u → w.cell? ⟨g, j, none⟩ = some (sv u) := by
  rcases h.2 with ⟨_, h0⟩ | ⟨g, cap, cur, rfl, hb, hg, hc, _⟩
  · omega
  · refine ⟨g, cap, rfl, hc, hb, (Array.getElem?_eq_some_iff.1 hg).1, ⟨cur, hg⟩, fun j u hj => ?_⟩
    have hl : (xs.map sv).length = n * 1 := h.1
    have hjl := (List.getElem?_eq_some_iff.1 hj).1
    rw [h.cellAt j (by rw [← hl]; simpa using hjl), List.getElem?_map, hj]
    rfl
theorem RB.out5 {w wr : World} {gb : Nat} {l : List UInt8} {bad : Bool} {f t : ByteArray} {ch sm : Int} {v : Value} {ds : List Df} (h : RB w wr gb l bad f t ch v ds sm) (v0 v1 v2 v3 v4 : Value) :
    let W := ((((wr.setCell ⟨w.heap.size, 0, none⟩ v0).setCell ⟨w.heap.size, 1, none⟩ v1).setCell ⟨w.heap.size, 2, none⟩ v2).setCell ⟨w.heap.size, 3, none⟩ v3).setCell ⟨w.heap.size, 4, none⟩ v4
    W.cell? ⟨w.heap.size, 0, none⟩ = some v0 ∧ W.cell? ⟨w.heap.size, 1, none⟩ = some v1 ∧ W.cell? ⟨w.heap.size, 2, none⟩ = some v2 ∧ W.cell? ⟨w.heap.size, 3, none⟩ = some v3 ∧ W.cell? ⟨w.heap.size, 4, none⟩ = some v4 ∧ Below w.heap.size w W ∧ W.ownsRow w.heap.size 145 5 v ds.length (flat encD ds) := by
  intro W
  have hn5 : W.heap[w.heap.size]? = _ := heap_set5 h.res v0 v1 v2 v3 v4
  have hne := h.neR
  refine ⟨by rw [cell_of_row W _ 0 _ _ _ hn5]; rfl, by rw [cell_of_row W _ 1 _ _ _ hn5]; rfl, by rw [cell_of_row W _ 2 _ _ _ hn5]; rfl, by rw [cell_of_row W _ 3 _ _ _ hn5]; rfl, by rw [cell_of_row W _ 4 _ _ _ hn5]; rfl, ?_, ?_⟩
  · exact ((((h.below.setCell (p := ⟨w.heap.size, 0, none⟩) (Nat.le_refl _) _).setCell (p := ⟨w.heap.size, 1, none⟩) (Nat.le_refl _) _).setCell (p := ⟨w.heap.size, 2, none⟩) (Nat.le_refl _) _).setCell (p := ⟨w.heap.size, 3, none⟩) (Nat.le_refl _) _).setCell (p := ⟨w.heap.size, 4, none⟩) (Nat.le_refl _) _
  · exact ((((h.own.kept (grown_set _ _ _ _) (.inr hne)).kept (grown_set _ _ _ _) (.inr hne)).kept (grown_set _ _ _ _) (.inr hne)).kept (grown_set _ _ _ _) (.inr hne)).kept (grown_set _ _ _ _) (.inr hne)
theorem RB.resCells {w wr : World} {gb : Nat} {l : List UInt8} {bad : Bool} {f t : ByteArray} {ch sm : Int} {v : Value} {ds : List Df} (h : RB w wr gb l bad f t ch v ds sm) : wr.cell? ⟨w.heap.size, 0, none⟩ = some (.string ⟨#[]⟩) ∧ wr.cell? ⟨w.heap.size, 1, none⟩ = some (.string ⟨#[]⟩) ∧ wr.cell? ⟨w.heap.size, 2, none⟩ = some (.int .i64 0) ∧ wr.cell? ⟨w.heap.size, 3, none⟩ = some (.slice none 0 0) ∧ wr.cell? ⟨w.heap.size, 4, none⟩ = some (.int .i64 0) ∧ ∀ i, wr.frozen? ⟨w.heap.size, i, none⟩ = false :=
  ⟨by rw [cell_of_row wr _ 0 _ _ _ h.res]; rfl, by rw [cell_of_row wr _ 1 _ _ _ h.res]; rfl, by rw [cell_of_row wr _ 2 _ _ _ h.res]; rfl, by rw [cell_of_row wr _ 3 _ _ _ h.res]; rfl, by rw [cell_of_row wr _ 4 _ _ _ h.res]; rfl, fun i => Lib.frozen_of_heap h.res i⟩
theorem RB.boxCells {w wr : World} {gb : Nat} {l : List UInt8} {bad : Bool} {f t : ByteArray} {ch sm : Int} {v : Value} {ds : List Df} (h : RB w wr gb l bad f t ch v ds sm) : wr.cell? ⟨gb, 0, none⟩ = some (.string f) ∧ wr.cell? ⟨gb, 1, none⟩ = some (.string t) ∧ wr.cell? ⟨gb, 2, none⟩ = some (.int .i64 ch) ∧ wr.cell? ⟨gb, 3, none⟩ = some v ∧ wr.cell? ⟨gb, 4, none⟩ = some (.int .i64 sm) ∧ ∀ i, wr.frozen? ⟨gb, i, none⟩ = false :=
  ⟨by rw [cell_of_row wr _ 0 _ _ _ h.box]; rfl, by rw [cell_of_row wr _ 1 _ _ _ h.box]; rfl, by rw [cell_of_row wr _ 2 _ _ _ h.box]; rfl, by rw [cell_of_row wr _ 3 _ _ _ h.box]; rfl, by rw [cell_of_row wr _ 4 _ _ _ h.box]; rfl, fun i => Lib.frozen_of_heap h.box i⟩
def ReadPost (q : Bq × Int) (w : World) (e : Ending) (w' : World) : Prop := ∃ D dc, e = .returned (.tuple #[bkV q.1.f q.1.t q.1.ch D q.1.ds.length dc q.1.sm, .int .i64 q.2]) ∧ w'.ownsRow w.heap.size 145 5 (.slice D q.1.ds.length dc) q.1.ds.length (flat encD q.1.ds) ∧ Below w.heap.size w w'
set_option maxRecDepth 100000 in
set_option maxHeartbeats 4000000 in
theorem readBackup_any (l : List UInt8) (w : World) (hl : l.length ≤ 65536) :
    Calls Try.prog 149 #[.string (bs l)] w (ReadPost (readM l) w) := by
  obtain ⟨t, ht⟩ : ∃ t, t = if l.take 6 = bkMark then l.drop 6 else l := ⟨_, rfl⟩
  obtain ⟨is, his⟩ : ∃ is, is = decide (l.take 6 = bkMark) := ⟨_, rfl⟩
  have hS0 : St (P0of l) K1 t (!is) := by
    subst his ht
    unfold P0of K1
    by_cases h : l.take 6 = bkMark
    · simp only [h, if_true, decide_true]; exact ⟨fun h => by simp at h, fun _ => rfl⟩
    · simp only [h, if_false, decide_false]; exact ⟨fun _ => rfl, fun h => by simp at h⟩
  have htl : t.length ≤ 65536 := by
    rw [ht]
    split
    · rw [List.length_drop]; omega
    · exact hl
  have HCP := Lib.hid (cutPrefix_any l bkMark (w.alloc (.cells #[.string ⟨#[]⟩, .string ⟨#[]⟩, .int .i64 0, .slice none 0 0, .int .i64 0] 86)) (by omega) (by decide))
  rw [show cutP l bkMark = t from ht.symm, show bkMark.length = 6 from rfl, ← his] at HCP
  have HS0 := Lib.hid hS0
  have HR : ∀ o, P0of l = o → readM l = finM o := fun o h => readM_of h
  have HRM := Lib.hid HR
  have HSZ := Lib.hid (P0_sizes (t := l))
  clear ht his hS0 HR
  generalize P0of l = P0 at *
  go_enter Try.func149, Try.ntmps149
  go_wp2_with fail
  refine HCP.out.mono ?_
  rintro e w0' ⟨rfl, rfl⟩
  have hT0 : Tk ((w.alloc (.cells #[.string ⟨#[]⟩, .string ⟨#[]⟩, .int .i64 0, .slice none 0 0, .int .i64 0] 86)).alloc (.cells #[.string (bs t), .bool (!is)] 184)) (w.heap.size + 1) t (!is) := by
    unfold Tk
    have := heap_alloc_new (w.alloc (.cells #[.string ⟨#[]⟩, .string ⟨#[]⟩, .int .i64 0, .slice none 0 0, .int .i64 0] 86)) (.cells #[.string (bs t), .bool (!is)] 184)
    rwa [World.size_alloc] at this
  have HT0 := Lib.hid hT0
  have hr0 : ((w.alloc (.cells #[.string ⟨#[]⟩, .string ⟨#[]⟩, .int .i64 0, .slice none 0 0, .int .i64 0] 86)).alloc (.cells #[.string (bs t), .bool (!is)] 184)).heap[w.heap.size]? = some (.cells #[.string ⟨#[]⟩, .string ⟨#[]⟩, .int .i64 0, .slice none 0 0, .int .i64 0] 86 (0, 0)) := (Lib.alloc_old _ _ _ (by simp)).trans (heap_alloc_new _ _)
  have hb0 : Below w.heap.size w ((w.alloc (.cells #[.string ⟨#[]⟩, .string ⟨#[]⟩, .int .i64 0, .slice none 0 0, .int .i64 0] 86)).alloc (.cells #[.string (bs t), .bool (!is)] 184)) := by repeat (first | exact Below.refl _ _ | assumption | refine Below.drew ?_ | refine below_drewN ?_ _ | refine Below.setCell ?_ (by first | exact Nat.le_refl _ | exact Below.size (by assumption) | (simp; done) | (simp; omega) | omega) _ | refine Below.alloc ?_ (by first | exact Nat.le_refl _ | exact Below.size (by assumption) | (simp; done) | (simp; omega) | omega) _)
  have HR0 := Lib.hid (And.intro hr0 hb0)
  clear hT0 hr0 hb0 HCP
  go_wp2_with fail
  refine (number_any (w.heap.size + 1) t (!is) 4 _ HT0.out (by omega) (by omega)).mono ?_
  generalize htk : tkText 4 t (!is) = q1
  obtain ⟨a1, l1, b1⟩ := q1
  rintro e w1 ⟨rfl, ht1, hg1⟩
  have hl1 : l1.length ≤ 65536 := by have := (tkText_len 4 t (!is)).2.1; rw [htk] at this; exact Nat.le_trans this htl
  have HS1 := Lib.hid (HS0.out.one htk)
  have ha1 : be a1 < 4294967296 := by
    have h1 := be_lt a1
    have h2 := (tkText_len 4 t (!is)).1
    rw [htk] at h2
    exact Nat.lt_of_lt_of_le h1 (Nat.pow_le_pow_right (n := 256) (by omega) h2)
  have hz1 := hg1.size
  simp only [World.size_alloc] at hz1
  have hrb : RB w (w1.alloc (.cells #[.string ⟨#[]⟩, .string ⟨#[]⟩, .int .i64 (be a1), .slice none 0 0, .int .i64 0] 86)) w1.heap.size l1 b1 ⟨#[]⟩ ⟨#[]⟩ (be a1) (.slice none 0 0) [] 0 := by
    have e1 := (hg1.block w.heap.size (by simp; omega) (by simp)).trans HR0.out.1
    have e2 := HR0.out.2.grown hg1 HR0.out.2.size (fun k hk => by injection hk with hk; omega)
    exact ⟨(Lib.alloc_old w1 _ _ (by omega)).trans e1, ht1.kept (by repeat (first | exact Below.refl _ _ | assumption | refine Below.drew ?_ | refine below_drewN ?_ _ | refine Below.setCell ?_ (by first | exact Nat.le_refl _ | exact Below.size (by assumption) | (simp; done) | (simp; omega) | omega) _ | refine Below.alloc ?_ (by first | exact Nat.le_refl _ | exact Below.size (by assumption) | (simp; done) | (simp; omega) | omega) _)), heap_alloc_new _ _, own_nilRow _ _ _ _, below_after e2 (by repeat (first | exact Below.refl _ _ | assumption | refine Below.drew ?_ | refine below_drewN ?_ _ | refine Below.setCell ?_ (by first | exact Nat.le_refl _ | exact Below.size (by assumption) | (simp; done) | (simp; omega) | omega) _ | refine Below.alloc ?_ (by first | exact Nat.le_refl _ | exact Below.size (by assumption) | (simp; done) | (simp; omega) | omega) _)), by omega⟩
  have HRB := Lib.hid hrb
  clear ht1 hg1 hrb htk HS0 HT0 HR0
  go_wp2_with fail
  refine (exactly_any (w.heap.size + 1) l1 b1 2 _ HRB.out.tk (by omega) (by omega)).mono ?_
  rintro e w2 ⟨v2, ns, l2, b2, rfl, hex, ho2, ht2, hg2⟩
  have hl2 : l2.length ≤ 65536 := Nat.le_trans hex.2.1 hl1
  obtain ⟨n0, n1, rfl⟩ : ∃ a b, ns = [a, b] := by
    have := hex.1
    match ns, this with
    | [a, b], _ => exact ⟨a, b, rfl⟩
  have HS2 := Lib.hid (HS1.out.two hex)
  obtain ⟨gx, cx, rfl, _, _, hgx, ⟨cur, hcur⟩, hcx⟩ := own_row ho2 (by omega)
  have hx0 := hcx 0 n0 rfl
  have hx1 := hcx 1 n1 rfl
  have hrb2 := HRB.out.step hg2 ht2
  have hne : gx ≠ w1.heap.size := by
    intro e
    rw [e, hrb2.box] at hcur
    injection hcur with hcur
    injection hcur with _ h2 _
    exact absurd h2 (by decide)
  have HNE := Lib.hid hne
  have d0 : ∃ u, w2.cell? ⟨w1.heap.size, 0, none⟩ = some u := ⟨_, by rw [cell_of_row w2 _ 0 _ _ _ hrb2.box]; rfl⟩
  have d1 : ∃ u, w2.cell? ⟨w1.heap.size, 1, none⟩ = some u := ⟨_, by rw [cell_of_row w2 _ 1 _ _ _ hrb2.box]; rfl⟩
  obtain ⟨u0, d0⟩ := d0
  obtain ⟨u1, d1⟩ := d1
  have f0 : w2.frozen? ⟨w1.heap.size, 0, none⟩ = false := Lib.frozen_of_heap hrb2.box 0
  have f1 : w2.frozen? ⟨w1.heap.size, 1, none⟩ = false := Lib.frozen_of_heap hrb2.box 1
  have HRB2 := Lib.hid hrb2
  clear ho2 ht2 hg2 hex hcur hcx hrb2 hne HRB HS1
  have hne := HNE.out
  go_wp2_with fail
  go_region_held3 (fun w' => w'.cell? ⟨gx, 0, none⟩ = some (sv n0) ∧ w'.cell? ⟨gx, 1, none⟩ = some (sv n1))
    ((refine ⟨?_, ?_⟩ <;> first | assumption | exact keepSet hne (by assumption) | exact keepSet hne (keepSet hne (by assumption))))
    (fail)
  all_goals
    have hrb3 : RB w (((w2.setCell ⟨w1.heap.size, 0, none⟩ (.string (bs n0))).setCell ⟨w1.heap.size, 1, none⟩ (.string (bs n1))).drew) w1.heap.size l2 b2 (bs n0) (bs n1) (be a1) (.slice none 0 0) [] 0 := ((HRB2.out.field 0 _ rfl).field 1 _ rfl).drew
    have HRB3 := Lib.hid hrb3
    clear hrb3 hx0 hx1 d0 d1 f0 f1 hne hgx HNE HRB2
    generalize ((w2.setCell ⟨w1.heap.size, 0, none⟩ (.string (bs n0))).setCell ⟨w1.heap.size, 1, none⟩ (.string (bs n1))).drew = w3 at HRB3 ⊢
    go_wp2_with fail
    refine (number_any (w.heap.size + 1) l2 b2 1 _ HRB3.out.tk (by omega) (by omega)).mono ?_
    generalize htk : tkText 1 l2 b2 = q4
    obtain ⟨a4, l4, b4⟩ := q4
    rintro e w4 ⟨rfl, ht4, hg4⟩
    have hl4 : l4.length ≤ 65536 := by have := (tkText_len 1 l2 b2).2.1; rw [htk] at this; exact Nat.le_trans this hl2
    have HS4 := Lib.hid (HS2.out.three htk)
    have ha4 : be a4 < 256 := by
      have h1 := be_lt a4
      have h2 := (tkText_len 1 l2 b2).1
      rw [htk] at h2
      exact Nat.lt_of_lt_of_le h1 (Nat.pow_le_pow_right (n := 256) (by omega) h2)
    have HRB4 := Lib.hid (HRB3.out.step hg4 ht4)
    clear ht4 hg4 htk HS2 HRB3
    go_wp2_with fail
    go_loopw [10] (fun i wr => ∃ (k : Nat) (v : Value) (ds : List Df) (l' : List UInt8) (b' : Bool), i = .int .i64 k ∧ k ≤ be a4 ∧ RB w wr w1.heap.size l' b' (bs n0) (bs n1) (be a1) v ds 0 ∧ DRel l4 b4 (be a4) k ds l' b') (fun i _ => be a4 - (intOf i).toNat)
    case atStart => exact ⟨0, _, [], l4, b4, rfl, Nat.zero_le _, HRB4.out, DRel.start _ _ _⟩
    case round =>
      obtain ⟨k, v, ds, l', b', rfl, hk, hrb, hdr⟩ := hrel
      have hc1 := hrb.tk.cells.2.1
      have HRB := Lib.hid hrb
      have HDR := Lib.hid hdr
      have hll : l'.length ≤ 65536 := Nat.le_trans hdr.le hl4
      have hdl : ds.length = k := hdr.len
      have HDL := Lib.hid hdl
      clear hrb hdr HRB4 hdl
      by_cases hgo : k < be a4 ∧ b' = false
      · obtain ⟨hlt, rfl⟩ := hgo
        go_wp2_with fail
        clear hc1
        refine (number_any (w.heap.size + 1) l' false 1 _ HRB.out.tk (by omega) (by omega)).mono ?_
        generalize htk : tkText 1 l' false = q5
        obtain ⟨a5, l5, b5⟩ := q5
        rintro e w5 ⟨rfl, ht5, hg5⟩
        have hl5 : l5.length ≤ 65536 := by have := (tkText_len 1 l' false).2.1; rw [htk] at this; exact Nat.le_trans this hll
        have ha5 : be a5 < 256 := by
          have h1 := be_lt a5
          have h2 := (tkText_len 1 l' false).1
          rw [htk] at h2
          exact Nat.lt_of_lt_of_le h1 (Nat.pow_le_pow_right (n := 256) (by omega) h2)
        have HTK := Lib.hid htk
        have HRB5 := Lib.hid (HRB.out.step hg5 ht5)
        clear ht5 hg5 htk HRB
        go_wp2_with fail
        refine (exactly_any (w.heap.size + 1) l5 b5 3 _ HRB5.out.tk (by omega) (by omega)).mono ?_
        rintro e w6 ⟨v6, xs, l6, b6, rfl, hex, ho6, ht6, hg6⟩
        have HDR6 : Hid (DRel l4 b4 (be a4) (k + 1) (ds ++ [dfOf (be a5) xs]) l6 (b6 || decide (3 < be a5))) := by
          have h := HDR.out.step (b2 := b6) (l2 := l6) (xs := xs) hlt (by rw [HTK.out]; exact hex)
          rw [HTK.out] at h
          exact h
        obtain ⟨x0, x1, x2, rfl⟩ : ∃ a b c, xs = [a, b, c] := by
          have := hex.1
          match xs, this with
          | [a, b, c], _ => exact ⟨a, b, c, rfl⟩
        obtain ⟨gx, cx, rfl, _, _, hgx, ⟨cur, hcur⟩, hcx⟩ := own_row ho6 (by omega)
        have hrb6 := HRB5.out.step hg6 ht6
        have hneB : gx ≠ w1.heap.size := by
          intro e
          rw [e, hrb6.box] at hcur
          injection hcur with hcur
          injection hcur with _ h2 _
          exact absurd h2 (by decide)
        have hneT : gx ≠ w.heap.size + 1 := by
          intro e
          have h3 := hrb6.tk
          unfold Tk at h3
          rw [e, h3] at hcur
          injection hcur with hcur
          injection hcur with _ h2 _
          exact absurd h2 (by decide)
        have hneV : v.ownBlock ≠ some gx := own_ne_blk hrb6.own hcur (by decide)
        obtain ⟨m, hm⟩ : ∃ m, m = be a5 := ⟨_, rfl⟩
        rw [← hm] at HDR6 ha5 ⊢
        obtain ⟨p1, hp1, hq1⟩ : ∃ p1 : Int, bits .and .i64 (m : Int) 1 = p1 ∧ (p1 != 0) = decide (m % 2 = 1) := ⟨_, rfl, by rw [and1_i64 m ha5]; exact and_bool m⟩
        obtain ⟨p2, hp2, hq2⟩ : ∃ p2 : Int, bits .and .i64 (m : Int) 2 = p2 ∧ (p2 != 0) = decide (m / 2 % 2 = 1) := ⟨_, rfl, by rw [and2_i64 m ha5]; exact and_bool2 m⟩
        have hdf : dfOf m [x0, x1, x2] = ⟨bs x0, bs x1, bs x2, decide (m % 2 = 1), decide (m / 2 % 2 = 1)⟩ := rfl
        generalize decide (m % 2 = 1) = d1 at hq1 hdf
        generalize decide (m / 2 % 2 = 1) = d2 at hq2 hdf
        rw [hdf] at HDR6
        have c1 := hrb6.tk.cells.2.1
        have f1 := hrb6.tk.cells.2.2 1
        have HC := Lib.hid (And.intro (hcx 0 x0 rfl) (And.intro (hcx 1 x1 rfl) (hcx 2 x2 rfl)))
        have HRB6 := Lib.hid hrb6
        have HNE := Lib.hid (And.intro hneB (And.intro hneT hneV))
        have hms : (m : Int) < 256 := by omega
        clear hm ho6 ht6 hg6 hex hcur hcx hrb6 hneB hneT hneV HRB5 HDR HTK hdf
        cases b6 with
        | true =>
          go_wp2_with fail
          have HD7 : Hid (DRel l4 b4 (be a4) (k + 1) (ds ++ [⟨bs x0, bs x1, bs x2, d1, d2⟩]) l6 true) := by
            show DRel _ _ _ _ _ _ _
            exact HDR6.out
          clear HDR6
          have hk0 := keepSet (a := ⟨w.heap.size + 1, 1, none⟩) (v := .bool true) (p := ⟨gx, 0, none⟩) HNE.out.2.1 HC.out.1
          have hk1 := keepSet (a := ⟨w.heap.size + 1, 1, none⟩) (v := .bool true) (p := ⟨gx, 1, none⟩) HNE.out.2.1 HC.out.2.1
          have hk2 := keepSet (a := ⟨w.heap.size + 1, 1, none⟩) (v := .bool true) (p := ⟨gx, 2, none⟩) HNE.out.2.1 HC.out.2.2
          have hrb7 := HRB6.out.setBad true
          have hgx7 : gx < (w6.setCell ⟨w.heap.size + 1, 1, none⟩ (.bool true)).heap.size := by simpa using hgx
          generalize w6.setCell ⟨w.heap.size + 1, 1, none⟩ (.bool true) = w7 at hk0 hk1 hk2 hrb7 hgx7 ⊢
          have c3 : w7.cell? ⟨w1.heap.size, 3, none⟩ = some v := by rw [cell_of_row w7 _ 3 _ _ _ hrb7.box]; rfl
          have hgb := hrb7.gl
          have hle := hrb7.below.size
          have HRB7 := Lib.hid hrb7
          have hneB := HNE.out.1
          have hneV := HNE.out.2.2
          have hdl : ds.length < 256 := by have := HDL.out; omega
          clear hrb7 HRB6 c1 f1 hgx
          refine wp_region_noPanic ?_
          refine wp_region_held_drew (S := (fun w' => w'.cell? ⟨gx, 0, none⟩ = some (sv x0) ∧ w'.cell? ⟨gx, 1, none⟩ = some (sv x1) ∧ w'.cell? ⟨gx, 2, none⟩ = some (sv x2))) (by kernel_rfl) ?_ (fun hHeld => ?_)
          · (try dsimp only)
            exact ⟨hk0, hk1, hk2⟩
          refine wpAnyH_take (i := 0) (oi := ⟨some 54, _, _, _, _, _⟩) (v := ?_) rfl (by kernel_rfl) (by kernel_rfl) (by kernel_rfl) (fun _ _ _ h => h) (Or.inl ⟨by simp [Region.wanted, yielded, undef], ?_⟩) (by assumption) ?_
          rotate_left
          · ((intro w hSw; (try dsimp only at hSw); go_simp) <;> with_reducible rfl)
          (try simp only [Act.put, List.setIfInBounds_toArray, List.set_cons_zero, List.set_cons_succ])
          refine wpAnyH_take (i := 2) (oi := ⟨some 56, _, _, _, _, _⟩) (v := ?_) rfl (by kernel_rfl) (by kernel_rfl) (by kernel_rfl) (fun _ _ _ h => h) (Or.inl ⟨by simp [Region.wanted, yielded, undef], ?_⟩) (by assumption) ?_
          rotate_left
          · ((intro w hSw; (try dsimp only at hSw); go_simp) <;> with_reducible rfl)
          (try simp only [Act.put, List.setIfInBounds_toArray, List.set_cons_zero, List.set_cons_succ])
          refine wpAnyH_take (i := 3) (oi := ⟨some 57, _, _, _, _, _⟩) (v := ?_) rfl (by kernel_rfl) (by kernel_rfl) (by kernel_rfl) (fun _ _ _ h => h) (Or.inl ⟨by simp [Region.wanted, yielded, undef], ?_⟩) (by assumption) ?_
          rotate_left
          · ((intro w hSw; (try dsimp only at hSw); go_simp) <;> with_reducible rfl)
          (try simp only [Act.put, List.setIfInBounds_toArray, List.set_cons_zero, List.set_cons_succ])
          refine wpAnyH_take (i := 4) (oi := ⟨some 58, _, _, _, _, _⟩) (v := ?_) rfl (by kernel_rfl) (by kernel_rfl) (by kernel_rfl) (fun _ _ _ h => h) (Or.inl ⟨by simp [Region.wanted, yielded, undef], ?_⟩) (by assumption) ?_
          rotate_left
          · ((intro w hSw; (try dsimp only at hSw); go_simp) <;> with_reducible rfl)
          (try simp only [Act.put, List.setIfInBounds_toArray, List.set_cons_zero, List.set_cons_succ])
          refine wpAnyH_take (i := 5) (oi := ⟨some 59, _, _, _, _, _⟩) (v := ?_) rfl (by kernel_rfl) (by kernel_rfl) (by kernel_rfl) (fun _ _ _ h => h) (Or.inl ⟨by simp [Region.wanted, yielded, undef], ?_⟩) (by assumption) ?_
          rotate_left
          · ((intro w hSw; (try dsimp only at hSw); go_simp) <;> with_reducible rfl)
          (try simp only [Act.put, List.setIfInBounds_toArray, List.set_cons_zero, List.set_cons_succ])
          refine wpAnyH_take (i := 6) (oi := ⟨some 60, _, _, _, _, _⟩) (v := ?_) rfl (by kernel_rfl) (by kernel_rfl) (by kernel_rfl) (fun _ _ _ h => h) (Or.inl ⟨by simp [Region.wanted, yielded, undef], ?_⟩) (by assumption) ?_
          rotate_left
          · ((intro w hSw; (try dsimp only at hSw); go_simp) <;> with_reducible rfl)
          (try simp only [Act.put, List.setIfInBounds_toArray, List.set_cons_zero, List.set_cons_succ])
          refine wpAnyH_take (i := 7) (oi := ⟨some 61, _, _, _, _, _⟩) (v := ?_) rfl (by kernel_rfl) (by kernel_rfl) (by kernel_rfl) (fun _ _ _ h => h) (Or.inl ⟨by simp [Region.wanted, yielded, undef], ?_⟩) (by assumption) ?_
          rotate_left
          · ((intro w hSw; (try dsimp only at hSw); go_simp) <;> with_reducible rfl)
          (try simp only [Act.put, List.setIfInBounds_toArray, List.set_cons_zero, List.set_cons_succ])
          refine wpAnyH_take (i := 8) (oi := ⟨some 62, _, _, _, _, _⟩) (v := ?_) rfl (by kernel_rfl) (by kernel_rfl) (by kernel_rfl) (fun _ _ _ h => h) (Or.inl ⟨by simp [Region.wanted, yielded, undef], ?_⟩) (by assumption) ?_
          rotate_left
          · ((intro w hSw; (try dsimp only at hSw); go_simp) <;> with_reducible rfl)
          (try simp only [Act.put, List.setIfInBounds_toArray, List.set_cons_zero, List.set_cons_succ])
          refine wpAnyH_take (i := 9) (oi := ⟨some 63, _, _, _, _, _⟩) (v := ?_) rfl (by kernel_rfl) (by kernel_rfl) (by kernel_rfl) (fun _ _ _ h => h) (Or.inl ⟨by simp [Region.wanted, yielded, undef], ?_⟩) (by assumption) ?_
          rotate_left
          · ((intro w hSw; (try dsimp only at hSw); go_simp) <;> with_reducible rfl)
          (try simp only [Act.put, List.setIfInBounds_toArray, List.set_cons_zero, List.set_cons_succ])
          refine wpAnyH_take (i := 10) (oi := ⟨some 64, _, _, _, _, _⟩) (v := ?_) rfl (by kernel_rfl) (by kernel_rfl) (by kernel_rfl) (fun _ _ _ h => h) (Or.inl ⟨by simp [Region.wanted, yielded, undef], ?_⟩) (by assumption) ?_
          rotate_left
          · ((intro w hSw; (try dsimp only at hSw); go_simp) <;> with_reducible rfl)
          (try simp only [Act.put, List.setIfInBounds_toArray, List.set_cons_zero, List.set_cons_succ])
          refine wpAnyH_take (i := 11) (oi := ⟨some 65, _, _, _, _, _⟩) (v := ?_) rfl (by kernel_rfl) (by kernel_rfl) (by kernel_rfl) (fun _ _ _ h => h) (Or.inl ⟨by simp [Region.wanted, yielded, undef], ?_⟩) (by assumption) ?_
          rotate_left
          · ((intro w hSw; (try dsimp only at hSw); go_simp) <;> with_reducible rfl)
          (try simp only [Act.put, List.setIfInBounds_toArray, List.set_cons_zero, List.set_cons_succ])
          refine wpAnyH_take (i := 12) (oi := ⟨some 66, _, _, _, _, _⟩) (v := ?_) rfl (by kernel_rfl) (by kernel_rfl) (by kernel_rfl) (fun _ _ _ h => h) (Or.inl ⟨by simp [Region.wanted, yielded, undef], ?_⟩) (by assumption) ?_
          rotate_left
          · ((intro w hSw; (try dsimp only at hSw); go_simp) <;> with_reducible rfl)
          (try simp only [Act.put, List.setIfInBounds_toArray, List.set_cons_zero, List.set_cons_succ])
          refine wpAnyH_take (i := 13) (oi := ⟨some 67, _, _, _, _, _⟩) (v := ?_) rfl (by kernel_rfl) (by kernel_rfl) (by kernel_rfl) (fun _ _ _ h => h) (Or.inl ⟨by simp [Region.wanted, yielded, undef], ?_⟩) (by assumption) ?_
          rotate_left
          · ((intro w hSw; (try dsimp only at hSw); go_simp) <;> with_reducible rfl)
          (try simp only [Act.put, List.setIfInBounds_toArray, List.set_cons_zero, List.set_cons_succ])
          refine wpAnyH_take (i := 14) (oi := ⟨some 68, _, _, _, _, _⟩) (v := ?_) rfl (by kernel_rfl) (by kernel_rfl) (by kernel_rfl) (fun _ _ _ h => h) (Or.inl ⟨by simp [Region.wanted, yielded, undef], ?_⟩) (by assumption) ?_
          rotate_left
          · ((intro w hSw; (try dsimp only at hSw); go_simp) <;> with_reducible rfl)
          (try simp only [Act.put, List.setIfInBounds_toArray, List.set_cons_zero, List.set_cons_succ])
          refine wpAnyH_take (i := 15) (oi := ⟨some 69, _, _, _, _, _⟩) (v := ?_) rfl (by kernel_rfl) (by kernel_rfl) (by kernel_rfl) (fun _ _ _ h => h) (Or.inl ⟨by simp [Region.wanted, yielded, undef], ?_⟩) (by assumption) ?_
          rotate_left
          · ((intro w hSw; (try dsimp only at hSw); go_simp) <;> with_reducible rfl)
          (try simp only [Act.put, List.setIfInBounds_toArray, List.set_cons_zero, List.set_cons_succ])
          refine wpAnyH_take (i := 16) (oi := ⟨some 70, _, _, _, _, _⟩) (v := ?_) rfl (by kernel_rfl) (by kernel_rfl) (by kernel_rfl) (fun _ _ _ h => h) (Or.inl ⟨by simp [Region.wanted, yielded, undef], ?_⟩) (by assumption) ?_
          rotate_left
          · ((intro w hSw; (try dsimp only at hSw); go_simp) <;> with_reducible rfl)
          (try simp only [Act.put, List.setIfInBounds_toArray, List.set_cons_zero, List.set_cons_succ])
          refine wpAnyH_take (i := 17) (oi := ⟨some 71, _, _, _, _, _⟩) (v := ?_) rfl (by kernel_rfl) (by kernel_rfl) (by kernel_rfl) (fun _ _ _ h => h) (Or.inl ⟨by simp [Region.wanted, yielded, undef], ?_⟩) (by assumption) ?_
          rotate_left
          · ((intro w hSw; (try dsimp only at hSw); go_simp) <;> with_reducible rfl)
          (try simp only [Act.put, List.setIfInBounds_toArray, List.set_cons_zero, List.set_cons_succ])
          refine wpAnyH_ready (rs := [1, 18]) (by kernel_rfl) (by simp) ?_
          refine AllReadyH.cons (o := ⟨some 55, _, _, _, _, _⟩) rfl (fun K hK => ?_) (AllReadyH.cons (o := ⟨some 72, _, _, _, _, _⟩) rfl (fun K hK => ?_) AllReadyH.nil)
          · go_simp
            refine hK.out _ _ ?_ (fun hHeld => ?_)
            · (try dsimp only)
              exact ⟨hk0, hk1, hk2⟩
            clear hK K
            (try simp only [Act.put, List.setIfInBounds_toArray, List.set_cons_zero, List.set_cons_succ])
            refine wpAnyH_ready (rs := [18]) (by kernel_rfl) (by simp) ?_
            refine AllReadyH.cons (o := ⟨some 72, _, _, _, _, _⟩) rfl (fun K hK => ?_) AllReadyH.nil
            go_simp
            refine hK.out _ _ ?_ (fun hHeld => ?_)
            · (try dsimp only)
              exact ⟨oldA hk0 hgx7, oldA hk1 hgx7, oldA hk2 hgx7⟩
            clear hK K
            (try simp only [Act.put, List.setIfInBounds_toArray, List.set_cons_zero, List.set_cons_succ])
            refine wpAnyH_ready (rs := [19]) (by kernel_rfl) (by simp) ?_
            refine AllReadyH.cons (o := ⟨some 73, _, _, _, _, _⟩) rfl (fun K hK => ?_) AllReadyH.nil
            refine step_push_one elDiff rfl _ _ rfl w.heap.size v ds.length _ rfl (own_below HRB7.out.own (by repeat (first | exact Below.refl _ _ | assumption | refine Below.drew ?_ | refine below_drewN ?_ _ | refine Below.setCell ?_ (by first | exact Nat.le_refl _ | exact Below.size (by assumption) | (simp; done) | (simp; omega) | omega) _ | refine Below.alloc ?_ (by first | exact Nat.le_refl _ | exact Below.size (by assumption) | (simp; done) | (simp; omega) | omega) _))) w7.heap.size (encD ⟨bs x0, bs x1, bs x2, d1, d2⟩) (heap_alloc_new _ _) rfl rfl (by simp [encD, Value.oneCell']) (by simp only [maxLen]; omega) (by omega) (by simp; omega) ?_
            intro v3 w3 hp3
            obtain ⟨D3, cc3, rfl, _⟩ := own_form hp3.1
            have HP : Hid (Pushed w.heap.size 145 5 v (ds.length + 1) (flat encD ds ++ encD ⟨bs x0, bs x1, bs x2, d1, d2⟩) (w7.alloc (.cells #[.string (bs x0), .string (bs x1), .string (bs x2), .bool d1, .bool d2] 145)) (.slice D3 (ds.length + 1) cc3) w3) := ⟨hp3.1, ⟨hp3.2.os, hp3.2.tape, hp3.2.output, hp3.2.size, hp3.2.block⟩⟩
            have hfar : ∀ o u, w7.cell? ⟨gx, o, none⟩ = some u → w3.cell? ⟨gx, o, none⟩ = some u := fun o u hu => (World.cell?_of_block ((HP.out.2.block gx (by simp; omega) (fun e => hneV e.symm)).trans (Lib.alloc_old w7 _ gx hgx7))).trans hu
            have hbx := (HP.out.2.block w1.heap.size (by simp; omega) (fun e => HRB7.out.neB e.symm)).trans ((Lib.alloc_old w7 _ w1.heap.size hgb).trans HRB7.out.box)
            have c3' : w3.cell? ⟨w1.heap.size, 3, none⟩ = some v := by rw [cell_of_row w3 _ 3 _ _ _ hbx]; rfl
            have f3' : w3.frozen? ⟨w1.heap.size, 3, none⟩ = false := Lib.frozen_of_heap hbx 3
            have hrbN := HRB7.out.push HP.out
            have HRBN := Lib.hid hrbN
            clear hp3 hbx hrbN c3
            refine hK.out _ _ ?_ (fun hHeld => ?_)
            · (try dsimp only)
              exact ⟨hfar _ _ hk0, hfar _ _ hk1, hfar _ _ hk2⟩
            clear hK K
            (try simp only [Act.put, List.setIfInBounds_toArray, List.set_cons_zero, List.set_cons_succ])
            refine wpAnyH_take (i := 20) (oi := ⟨some 74, _, _, _, _, _⟩) (v := ?_) rfl (by kernel_rfl) (by kernel_rfl) (by kernel_rfl) (fun _ _ _ h => h) (Or.inl ⟨by simp [Region.wanted, yielded, undef], ?_⟩) (by assumption) ?_
            rotate_left
            · ((intro w hSw; (try dsimp only at hSw); go_simp) <;> with_reducible rfl)
            (try simp only [Act.put, List.setIfInBounds_toArray, List.set_cons_zero, List.set_cons_succ])
            refine wpAnyH_ready (rs := [21]) (by kernel_rfl) (by simp) ?_
            refine AllReadyH.cons rfl (fun K hK => ?_) AllReadyH.nil
            go_simp
            refine hK.out _ _ ?_ (fun hHeld => ?_)
            · (try dsimp only)
              exact ⟨keepSet hneB (hfar _ _ hk0), keepSet hneB (hfar _ _ hk1), keepSet hneB (hfar _ _ hk2)⟩
            clear hK K
            (try simp only [Act.put, List.setIfInBounds_toArray, List.set_cons_zero, List.set_cons_succ])
            refine wpAnyH_done (by kernel_rfl) ?_ _
            refine NoPanic.normal ?_
            go_wp2_with fail
            go_roundw
            case rel => exact ⟨k + 1, _, _, l6, true, by go_num, hlt, HRBN.out, HD7.out⟩
            case measure => simp [intOf]; omega
          · go_simp
            refine hK.out _ _ ?_ (fun hHeld => ?_)
            · (try dsimp only)
              exact ⟨oldA hk0 hgx7, oldA hk1 hgx7, oldA hk2 hgx7⟩
            clear hK K
            (try simp only [Act.put, List.setIfInBounds_toArray, List.set_cons_zero, List.set_cons_succ])
            have c3a := oldA (o := .cells #[.string (bs x0), .string (bs x1), .string (bs x2), .bool d1, .bool d2] 145) c3 hgb
            refine wpAnyH_ready (rs := [1]) (by kernel_rfl) (by simp) ?_
            refine AllReadyH.cons (o := ⟨some 55, _, _, _, _, _⟩) rfl (fun K hK => ?_) AllReadyH.nil
            go_simp
            refine hK.out _ _ ?_ (fun hHeld => ?_)
            · (try dsimp only)
              exact ⟨oldA hk0 hgx7, oldA hk1 hgx7, oldA hk2 hgx7⟩
            clear hK K
            (try simp only [Act.put, List.setIfInBounds_toArray, List.set_cons_zero, List.set_cons_succ])
            refine wpAnyH_ready (rs := [19]) (by kernel_rfl) (by simp) ?_
            refine AllReadyH.cons (o := ⟨some 73, _, _, _, _, _⟩) rfl (fun K hK => ?_) AllReadyH.nil
            refine step_push_one elDiff rfl _ _ rfl w.heap.size v ds.length _ rfl (own_below HRB7.out.own (by repeat (first | exact Below.refl _ _ | assumption | refine Below.drew ?_ | refine below_drewN ?_ _ | refine Below.setCell ?_ (by first | exact Nat.le_refl _ | exact Below.size (by assumption) | (simp; done) | (simp; omega) | omega) _ | refine Below.alloc ?_ (by first | exact Nat.le_refl _ | exact Below.size (by assumption) | (simp; done) | (simp; omega) | omega) _))) w7.heap.size (encD ⟨bs x0, bs x1, bs x2, d1, d2⟩) (heap_alloc_new _ _) rfl rfl (by simp [encD, Value.oneCell']) (by simp only [maxLen]; omega) (by omega) (by simp; omega) ?_
            intro v3 w3 hp3
            obtain ⟨D3, cc3, rfl, _⟩ := own_form hp3.1
            have HP : Hid (Pushed w.heap.size 145 5 v (ds.length + 1) (flat encD ds ++ encD ⟨bs x0, bs x1, bs x2, d1, d2⟩) (w7.alloc (.cells #[.string (bs x0), .string (bs x1), .string (bs x2), .bool d1, .bool d2] 145)) (.slice D3 (ds.length + 1) cc3) w3) := ⟨hp3.1, ⟨hp3.2.os, hp3.2.tape, hp3.2.output, hp3.2.size, hp3.2.block⟩⟩
            have hfar : ∀ o u, w7.cell? ⟨gx, o, none⟩ = some u → w3.cell? ⟨gx, o, none⟩ = some u := fun o u hu => (World.cell?_of_block ((HP.out.2.block gx (by simp; omega) (fun e => hneV e.symm)).trans (Lib.alloc_old w7 _ gx hgx7))).trans hu
            have hbx := (HP.out.2.block w1.heap.size (by simp; omega) (fun e => HRB7.out.neB e.symm)).trans ((Lib.alloc_old w7 _ w1.heap.size hgb).trans HRB7.out.box)
            have c3' : w3.cell? ⟨w1.heap.size, 3, none⟩ = some v := by rw [cell_of_row w3 _ 3 _ _ _ hbx]; rfl
            have f3' : w3.frozen? ⟨w1.heap.size, 3, none⟩ = false := Lib.frozen_of_heap hbx 3
            have hrbN := HRB7.out.push HP.out
            have HRBN := Lib.hid hrbN
            clear hp3 hbx hrbN c3
            refine hK.out _ _ ?_ (fun hHeld => ?_)
            · (try dsimp only)
              exact ⟨hfar _ _ hk0, hfar _ _ hk1, hfar _ _ hk2⟩
            clear hK K
            (try simp only [Act.put, List.setIfInBounds_toArray, List.set_cons_zero, List.set_cons_succ])
            refine wpAnyH_take (i := 20) (oi := ⟨some 74, _, _, _, _, _⟩) (v := ?_) rfl (by kernel_rfl) (by kernel_rfl) (by kernel_rfl) (fun _ _ _ h => h) (Or.inl ⟨by simp [Region.wanted, yielded, undef], ?_⟩) (by assumption) ?_
            rotate_left
            · ((intro w hSw; (try dsimp only at hSw); go_simp) <;> with_reducible rfl)
            (try simp only [Act.put, List.setIfInBounds_toArray, List.set_cons_zero, List.set_cons_succ])
            refine wpAnyH_ready (rs := [21]) (by kernel_rfl) (by simp) ?_
            refine AllReadyH.cons rfl (fun K hK => ?_) AllReadyH.nil
            go_simp
            refine hK.out _ _ ?_ (fun hHeld => ?_)
            · (try dsimp only)
              exact ⟨keepSet hneB (hfar _ _ hk0), keepSet hneB (hfar _ _ hk1), keepSet hneB (hfar _ _ hk2)⟩
            clear hK K
            (try simp only [Act.put, List.setIfInBounds_toArray, List.set_cons_zero, List.set_cons_succ])
            refine wpAnyH_done (by kernel_rfl) ?_ _
            refine NoPanic.normal ?_
            go_wp2_with fail
            go_roundw
            case rel => exact ⟨k + 1, _, _, l6, true, by go_num, hlt, HRBN.out, HD7.out⟩
            case measure => simp [intOf]; omega
        | false =>
          go_wp2_with fail
          obtain ⟨b7, hb7⟩ : ∃ b7 : Bool, b7 = decide ((3 : Int) < (m : Int)) := ⟨_, rfl⟩
          rw [← hb7]
          have HD7 : Hid (DRel l4 b4 (be a4) (k + 1) (ds ++ [⟨bs x0, bs x1, bs x2, d1, d2⟩]) l6 b7) := by
            show DRel _ _ _ _ _ _ _
            rw [hb7]
            exact (by have h := HDR6.out; rwa [Bool.false_or, show decide (3 < m) = decide ((3 : Int) < (m : Int)) from by rw [Bool.eq_iff_iff]; simp; omega] at h)
          clear hb7 HDR6
          have hk0 := keepSet (a := ⟨w.heap.size + 1, 1, none⟩) (v := .bool b7) (p := ⟨gx, 0, none⟩) HNE.out.2.1 HC.out.1
          have hk1 := keepSet (a := ⟨w.heap.size + 1, 1, none⟩) (v := .bool b7) (p := ⟨gx, 1, none⟩) HNE.out.2.1 HC.out.2.1
          have hk2 := keepSet (a := ⟨w.heap.size + 1, 1, none⟩) (v := .bool b7) (p := ⟨gx, 2, none⟩) HNE.out.2.1 HC.out.2.2
          have hrb7 := HRB6.out.setBad b7
          have hgx7 : gx < (w6.setCell ⟨w.heap.size + 1, 1, none⟩ (.bool b7)).heap.size := by simpa using hgx
          generalize w6.setCell ⟨w.heap.size + 1, 1, none⟩ (.bool b7) = w7 at hk0 hk1 hk2 hrb7 hgx7 ⊢
          have c3 : w7.cell? ⟨w1.heap.size, 3, none⟩ = some v := by rw [cell_of_row w7 _ 3 _ _ _ hrb7.box]; rfl
          have hgb := hrb7.gl
          have hle := hrb7.below.size
          have HRB7 := Lib.hid hrb7
          have hneB := HNE.out.1
          have hneV := HNE.out.2.2
          have hdl : ds.length < 256 := by have := HDL.out; omega
          clear hrb7 HRB6 c1 f1 hgx
          refine wp_region_noPanic ?_
          refine wp_region_held_drew (S := (fun w' => w'.cell? ⟨gx, 0, none⟩ = some (sv x0) ∧ w'.cell? ⟨gx, 1, none⟩ = some (sv x1) ∧ w'.cell? ⟨gx, 2, none⟩ = some (sv x2))) (by kernel_rfl) ?_ (fun hHeld => ?_)
          · (try dsimp only)
            exact ⟨hk0, hk1, hk2⟩
          refine wpAnyH_take (i := 0) (oi := ⟨some 54, _, _, _, _, _⟩) (v := ?_) rfl (by kernel_rfl) (by kernel_rfl) (by kernel_rfl) (fun _ _ _ h => h) (Or.inl ⟨by simp [Region.wanted, yielded, undef], ?_⟩) (by assumption) ?_
          rotate_left
          · ((intro w hSw; (try dsimp only at hSw); go_simp) <;> with_reducible rfl)
          (try simp only [Act.put, List.setIfInBounds_toArray, List.set_cons_zero, List.set_cons_succ])
          refine wpAnyH_take (i := 2) (oi := ⟨some 56, _, _, _, _, _⟩) (v := ?_) rfl (by kernel_rfl) (by kernel_rfl) (by kernel_rfl) (fun _ _ _ h => h) (Or.inl ⟨by simp [Region.wanted, yielded, undef], ?_⟩) (by assumption) ?_
          rotate_left
          · ((intro w hSw; (try dsimp only at hSw); go_simp) <;> with_reducible rfl)
          (try simp only [Act.put, List.setIfInBounds_toArray, List.set_cons_zero, List.set_cons_succ])
          refine wpAnyH_take (i := 3) (oi := ⟨some 57, _, _, _, _, _⟩) (v := ?_) rfl (by kernel_rfl) (by kernel_rfl) (by kernel_rfl) (fun _ _ _ h => h) (Or.inl ⟨by simp [Region.wanted, yielded, undef], ?_⟩) (by assumption) ?_
          rotate_left
          · ((intro w hSw; (try dsimp only at hSw); go_simp) <;> with_reducible rfl)
          (try simp only [Act.put, List.setIfInBounds_toArray, List.set_cons_zero, List.set_cons_succ])
          refine wpAnyH_take (i := 4) (oi := ⟨some 58, _, _, _, _, _⟩) (v := ?_) rfl (by kernel_rfl) (by kernel_rfl) (by kernel_rfl) (fun _ _ _ h => h) (Or.inl ⟨by simp [Region.wanted, yielded, undef], ?_⟩) (by assumption) ?_
          rotate_left
          · ((intro w hSw; (try dsimp only at hSw); go_simp) <;> with_reducible rfl)
          (try simp only [Act.put, List.setIfInBounds_toArray, List.set_cons_zero, List.set_cons_succ])
          refine wpAnyH_take (i := 5) (oi := ⟨some 59, _, _, _, _, _⟩) (v := ?_) rfl (by kernel_rfl) (by kernel_rfl) (by kernel_rfl) (fun _ _ _ h => h) (Or.inl ⟨by simp [Region.wanted, yielded, undef], ?_⟩) (by assumption) ?_
          rotate_left
          · ((intro w hSw; (try dsimp only at hSw); go_simp) <;> with_reducible rfl)
          (try simp only [Act.put, List.setIfInBounds_toArray, List.set_cons_zero, List.set_cons_succ])
          refine wpAnyH_take (i := 6) (oi := ⟨some 60, _, _, _, _, _⟩) (v := ?_) rfl (by kernel_rfl) (by kernel_rfl) (by kernel_rfl) (fun _ _ _ h => h) (Or.inl ⟨by simp [Region.wanted, yielded, undef], ?_⟩) (by assumption) ?_
          rotate_left
          · ((intro w hSw; (try dsimp only at hSw); go_simp) <;> with_reducible rfl)
          (try simp only [Act.put, List.setIfInBounds_toArray, List.set_cons_zero, List.set_cons_succ])
          refine wpAnyH_take (i := 7) (oi := ⟨some 61, _, _, _, _, _⟩) (v := ?_) rfl (by kernel_rfl) (by kernel_rfl) (by kernel_rfl) (fun _ _ _ h => h) (Or.inl ⟨by simp [Region.wanted, yielded, undef], ?_⟩) (by assumption) ?_
          rotate_left
          · ((intro w hSw; (try dsimp only at hSw); go_simp) <;> with_reducible rfl)
          (try simp only [Act.put, List.setIfInBounds_toArray, List.set_cons_zero, List.set_cons_succ])
          refine wpAnyH_take (i := 8) (oi := ⟨some 62, _, _, _, _, _⟩) (v := ?_) rfl (by kernel_rfl) (by kernel_rfl) (by kernel_rfl) (fun _ _ _ h => h) (Or.inl ⟨by simp [Region.wanted, yielded, undef], ?_⟩) (by assumption) ?_
          rotate_left
          · ((intro w hSw; (try dsimp only at hSw); go_simp) <;> with_reducible rfl)
          (try simp only [Act.put, List.setIfInBounds_toArray, List.set_cons_zero, List.set_cons_succ])
          refine wpAnyH_take (i := 9) (oi := ⟨some 63, _, _, _, _, _⟩) (v := ?_) rfl (by kernel_rfl) (by kernel_rfl) (by kernel_rfl) (fun _ _ _ h => h) (Or.inl ⟨by simp [Region.wanted, yielded, undef], ?_⟩) (by assumption) ?_
          rotate_left
          · ((intro w hSw; (try dsimp only at hSw); go_simp) <;> with_reducible rfl)
          (try simp only [Act.put, List.setIfInBounds_toArray, List.set_cons_zero, List.set_cons_succ])
          refine wpAnyH_take (i := 10) (oi := ⟨some 64, _, _, _, _, _⟩) (v := ?_) rfl (by kernel_rfl) (by kernel_rfl) (by kernel_rfl) (fun _ _ _ h => h) (Or.inl ⟨by simp [Region.wanted, yielded, undef], ?_⟩) (by assumption) ?_
          rotate_left
          · ((intro w hSw; (try dsimp only at hSw); go_simp) <;> with_reducible rfl)
          (try simp only [Act.put, List.setIfInBounds_toArray, List.set_cons_zero, List.set_cons_succ])
          refine wpAnyH_take (i := 11) (oi := ⟨some 65, _, _, _, _, _⟩) (v := ?_) rfl (by kernel_rfl) (by kernel_rfl) (by kernel_rfl) (fun _ _ _ h => h) (Or.inl ⟨by simp [Region.wanted, yielded, undef], ?_⟩) (by assumption) ?_
          rotate_left
          · ((intro w hSw; (try dsimp only at hSw); go_simp) <;> with_reducible rfl)
          (try simp only [Act.put, List.setIfInBounds_toArray, List.set_cons_zero, List.set_cons_succ])
          refine wpAnyH_take (i := 12) (oi := ⟨some 66, _, _, _, _, _⟩) (v := ?_) rfl (by kernel_rfl) (by kernel_rfl) (by kernel_rfl) (fun _ _ _ h => h) (Or.inl ⟨by simp [Region.wanted, yielded, undef], ?_⟩) (by assumption) ?_
          rotate_left
          · ((intro w hSw; (try dsimp only at hSw); go_simp) <;> with_reducible rfl)
          (try simp only [Act.put, List.setIfInBounds_toArray, List.set_cons_zero, List.set_cons_succ])
          refine wpAnyH_take (i := 13) (oi := ⟨some 67, _, _, _, _, _⟩) (v := ?_) rfl (by kernel_rfl) (by kernel_rfl) (by kernel_rfl) (fun _ _ _ h => h) (Or.inl ⟨by simp [Region.wanted, yielded, undef], ?_⟩) (by assumption) ?_
          rotate_left
          · ((intro w hSw; (try dsimp only at hSw); go_simp) <;> with_reducible rfl)
          (try simp only [Act.put, List.setIfInBounds_toArray, List.set_cons_zero, List.set_cons_succ])
          refine wpAnyH_take (i := 14) (oi := ⟨some 68, _, _, _, _, _⟩) (v := ?_) rfl (by kernel_rfl) (by kernel_rfl) (by kernel_rfl) (fun _ _ _ h => h) (Or.inl ⟨by simp [Region.wanted, yielded, undef], ?_⟩) (by assumption) ?_
          rotate_left
          · ((intro w hSw; (try dsimp only at hSw); go_simp) <;> with_reducible rfl)
          (try simp only [Act.put, List.setIfInBounds_toArray, List.set_cons_zero, List.set_cons_succ])
          refine wpAnyH_take (i := 15) (oi := ⟨some 69, _, _, _, _, _⟩) (v := ?_) rfl (by kernel_rfl) (by kernel_rfl) (by kernel_rfl) (fun _ _ _ h => h) (Or.inl ⟨by simp [Region.wanted, yielded, undef], ?_⟩) (by assumption) ?_
          rotate_left
          · ((intro w hSw; (try dsimp only at hSw); go_simp) <;> with_reducible rfl)
          (try simp only [Act.put, List.setIfInBounds_toArray, List.set_cons_zero, List.set_cons_succ])
          refine wpAnyH_take (i := 16) (oi := ⟨some 70, _, _, _, _, _⟩) (v := ?_) rfl (by kernel_rfl) (by kernel_rfl) (by kernel_rfl) (fun _ _ _ h => h) (Or.inl ⟨by simp [Region.wanted, yielded, undef], ?_⟩) (by assumption) ?_
          rotate_left
          · ((intro w hSw; (try dsimp only at hSw); go_simp) <;> with_reducible rfl)
          (try simp only [Act.put, List.setIfInBounds_toArray, List.set_cons_zero, List.set_cons_succ])
          refine wpAnyH_take (i := 17) (oi := ⟨some 71, _, _, _, _, _⟩) (v := ?_) rfl (by kernel_rfl) (by kernel_rfl) (by kernel_rfl) (fun _ _ _ h => h) (Or.inl ⟨by simp [Region.wanted, yielded, undef], ?_⟩) (by assumption) ?_
          rotate_left
          · ((intro w hSw; (try dsimp only at hSw); go_simp) <;> with_reducible rfl)
          (try simp only [Act.put, List.setIfInBounds_toArray, List.set_cons_zero, List.set_cons_succ])
          refine wpAnyH_ready (rs := [1, 18]) (by kernel_rfl) (by simp) ?_
          refine AllReadyH.cons (o := ⟨some 55, _, _, _, _, _⟩) rfl (fun K hK => ?_) (AllReadyH.cons (o := ⟨some 72, _, _, _, _, _⟩) rfl (fun K hK => ?_) AllReadyH.nil)
          · go_simp
            refine hK.out _ _ ?_ (fun hHeld => ?_)
            · (try dsimp only)
              exact ⟨hk0, hk1, hk2⟩
            clear hK K
            (try simp only [Act.put, List.setIfInBounds_toArray, List.set_cons_zero, List.set_cons_succ])
            refine wpAnyH_ready (rs := [18]) (by kernel_rfl) (by simp) ?_
            refine AllReadyH.cons (o := ⟨some 72, _, _, _, _, _⟩) rfl (fun K hK => ?_) AllReadyH.nil
            go_simp
            refine hK.out _ _ ?_ (fun hHeld => ?_)
            · (try dsimp only)
              exact ⟨oldA hk0 hgx7, oldA hk1 hgx7, oldA hk2 hgx7⟩
            clear hK K
            (try simp only [Act.put, List.setIfInBounds_toArray, List.set_cons_zero, List.set_cons_succ])
            refine wpAnyH_ready (rs := [19]) (by kernel_rfl) (by simp) ?_
            refine AllReadyH.cons (o := ⟨some 73, _, _, _, _, _⟩) rfl (fun K hK => ?_) AllReadyH.nil
            refine step_push_one elDiff rfl _ _ rfl w.heap.size v ds.length _ rfl (own_below HRB7.out.own (by repeat (first | exact Below.refl _ _ | assumption | refine Below.drew ?_ | refine below_drewN ?_ _ | refine Below.setCell ?_ (by first | exact Nat.le_refl _ | exact Below.size (by assumption) | (simp; done) | (simp; omega) | omega) _ | refine Below.alloc ?_ (by first | exact Nat.le_refl _ | exact Below.size (by assumption) | (simp; done) | (simp; omega) | omega) _))) w7.heap.size (encD ⟨bs x0, bs x1, bs x2, d1, d2⟩) (heap_alloc_new _ _) rfl rfl (by simp [encD, Value.oneCell']) (by simp only [maxLen]; omega) (by omega) (by simp; omega) ?_
            intro v3 w3 hp3
            obtain ⟨D3, cc3, rfl, _⟩ := own_form hp3.1
            have HP : Hid (Pushed w.heap.size 145 5 v (ds.length + 1) (flat encD ds ++ encD ⟨bs x0, bs x1, bs x2, d1, d2⟩) (w7.alloc (.cells #[.string (bs x0), .string (bs x1), .string (bs x2), .bool d1, .bool d2] 145)) (.slice D3 (ds.length + 1) cc3) w3) := ⟨hp3.1, ⟨hp3.2.os, hp3.2.tape, hp3.2.output, hp3.2.size, hp3.2.block⟩⟩
            have hfar : ∀ o u, w7.cell? ⟨gx, o, none⟩ = some u → w3.cell? ⟨gx, o, none⟩ = some u := fun o u hu => (World.cell?_of_block ((HP.out.2.block gx (by simp; omega) (fun e => hneV e.symm)).trans (Lib.alloc_old w7 _ gx hgx7))).trans hu
            have hbx := (HP.out.2.block w1.heap.size (by simp; omega) (fun e => HRB7.out.neB e.symm)).trans ((Lib.alloc_old w7 _ w1.heap.size hgb).trans HRB7.out.box)
            have c3' : w3.cell? ⟨w1.heap.size, 3, none⟩ = some v := by rw [cell_of_row w3 _ 3 _ _ _ hbx]; rfl
            have f3' : w3.frozen? ⟨w1.heap.size, 3, none⟩ = false := Lib.frozen_of_heap hbx 3
            have hrbN := HRB7.out.push HP.out
            have HRBN := Lib.hid hrbN
            clear hp3 hbx hrbN c3
            refine hK.out _ _ ?_ (fun hHeld => ?_)
            · (try dsimp only)
              exact ⟨hfar _ _ hk0, hfar _ _ hk1, hfar _ _ hk2⟩
            clear hK K
            (try simp only [Act.put, List.setIfInBounds_toArray, List.set_cons_zero, List.set_cons_succ])
            refine wpAnyH_take (i := 20) (oi := ⟨some 74, _, _, _, _, _⟩) (v := ?_) rfl (by kernel_rfl) (by kernel_rfl) (by kernel_rfl) (fun _ _ _ h => h) (Or.inl ⟨by simp [Region.wanted, yielded, undef], ?_⟩) (by assumption) ?_
            rotate_left
            · ((intro w hSw; (try dsimp only at hSw); go_simp) <;> with_reducible rfl)
            (try simp only [Act.put, List.setIfInBounds_toArray, List.set_cons_zero, List.set_cons_succ])
            refine wpAnyH_ready (rs := [21]) (by kernel_rfl) (by simp) ?_
            refine AllReadyH.cons rfl (fun K hK => ?_) AllReadyH.nil
            go_simp
            refine hK.out _ _ ?_ (fun hHeld => ?_)
            · (try dsimp only)
              exact ⟨keepSet hneB (hfar _ _ hk0), keepSet hneB (hfar _ _ hk1), keepSet hneB (hfar _ _ hk2)⟩
            clear hK K
            (try simp only [Act.put, List.setIfInBounds_toArray, List.set_cons_zero, List.set_cons_succ])
            refine wpAnyH_done (by kernel_rfl) ?_ _
            refine NoPanic.normal ?_
            go_wp2_with fail
            go_roundw
            case rel => exact ⟨k + 1, _, _, l6, b7, by go_num, hlt, HRBN.out, HD7.out⟩
            case measure => simp [intOf]; omega
          · go_simp
            refine hK.out _ _ ?_ (fun hHeld => ?_)
            · (try dsimp only)
              exact ⟨oldA hk0 hgx7, oldA hk1 hgx7, oldA hk2 hgx7⟩
            clear hK K
            (try simp only [Act.put, List.setIfInBounds_toArray, List.set_cons_zero, List.set_cons_succ])
            have c3a := oldA (o := .cells #[.string (bs x0), .string (bs x1), .string (bs x2), .bool d1, .bool d2] 145) c3 hgb
            refine wpAnyH_ready (rs := [1]) (by kernel_rfl) (by simp) ?_
            refine AllReadyH.cons (o := ⟨some 55, _, _, _, _, _⟩) rfl (fun K hK => ?_) AllReadyH.nil
            go_simp
            refine hK.out _ _ ?_ (fun hHeld => ?_)
            · (try dsimp only)
              exact ⟨oldA hk0 hgx7, oldA hk1 hgx7, oldA hk2 hgx7⟩
            clear hK K
            (try simp only [Act.put, List.setIfInBounds_toArray, List.set_cons_zero, List.set_cons_succ])
            refine wpAnyH_ready (rs := [19]) (by kernel_rfl) (by simp) ?_
            refine AllReadyH.cons (o := ⟨some 73, _, _, _, _, _⟩) rfl (fun K hK => ?_) AllReadyH.nil
            refine step_push_one elDiff rfl _ _ rfl w.heap.size v ds.length _ rfl (own_below HRB7.out.own (by repeat (first | exact Below.refl _ _ | assumption | refine Below.drew ?_ | refine below_drewN ?_ _ | refine Below.setCell ?_ (by first | exact Nat.le_refl _ | exact Below.size (by assumption) | (simp; done) | (simp; omega) | omega) _ | refine Below.alloc ?_ (by first | exact Nat.le_refl _ | exact Below.size (by assumption) | (simp; done) | (simp; omega) | omega) _))) w7.heap.size (encD ⟨bs x0, bs x1, bs x2, d1, d2⟩) (heap_alloc_new _ _) rfl rfl (by simp [encD, Value.oneCell']) (by simp only [maxLen]; omega) (by omega) (by simp; omega) ?_
            intro v3 w3 hp3
            obtain ⟨D3, cc3, rfl, _⟩ := own_form hp3.1
            have HP : Hid (Pushed w.heap.size 145 5 v (ds.length + 1) (flat encD ds ++ encD ⟨bs x0, bs x1, bs x2, d1, d2⟩) (w7.alloc (.cells #[.string (bs x0), .string (bs x1), .string (bs x2), .bool d1, .bool d2] 145)) (.slice D3 (ds.length + 1) cc3) w3) := ⟨hp3.1, ⟨hp3.2.os, hp3.2.tape, hp3.2.output, hp3.2.size, hp3.2.block⟩⟩
            have hfar : ∀ o u, w7.cell? ⟨gx, o, none⟩ = some u → w3.cell? ⟨gx, o, none⟩ = some u := fun o u hu => (World.cell?_of_block ((HP.out.2.block gx (by simp; omega) (fun e => hneV e.symm)).trans (Lib.alloc_old w7 _ gx hgx7))).trans hu
            have hbx := (HP.out.2.block w1.heap.size (by simp; omega) (fun e => HRB7.out.neB e.symm)).trans ((Lib.alloc_old w7 _ w1.heap.size hgb).trans HRB7.out.box)
            have c3' : w3.cell? ⟨w1.heap.size, 3, none⟩ = some v := by rw [cell_of_row w3 _ 3 _ _ _ hbx]; rfl
            have f3' : w3.frozen? ⟨w1.heap.size, 3, none⟩ = false := Lib.frozen_of_heap hbx 3
            have hrbN := HRB7.out.push HP.out
            have HRBN := Lib.hid hrbN
            clear hp3 hbx hrbN c3
            refine hK.out _ _ ?_ (fun hHeld => ?_)
            · (try dsimp only)
              exact ⟨hfar _ _ hk0, hfar _ _ hk1, hfar _ _ hk2⟩
            clear hK K
            (try simp only [Act.put, List.setIfInBounds_toArray, List.set_cons_zero, List.set_cons_succ])
            refine wpAnyH_take (i := 20) (oi := ⟨some 74, _, _, _, _, _⟩) (v := ?_) rfl (by kernel_rfl) (by kernel_rfl) (by kernel_rfl) (fun _ _ _ h => h) (Or.inl ⟨by simp [Region.wanted, yielded, undef], ?_⟩) (by assumption) ?_
            rotate_left
            · ((intro w hSw; (try dsimp only at hSw); go_simp) <;> with_reducible rfl)
            (try simp only [Act.put, List.setIfInBounds_toArray, List.set_cons_zero, List.set_cons_succ])
            refine wpAnyH_ready (rs := [21]) (by kernel_rfl) (by simp) ?_
            refine AllReadyH.cons rfl (fun K hK => ?_) AllReadyH.nil
            go_simp
            refine hK.out _ _ ?_ (fun hHeld => ?_)
            · (try dsimp only)
              exact ⟨keepSet hneB (hfar _ _ hk0), keepSet hneB (hfar _ _ hk1), keepSet hneB (hfar _ _ hk2)⟩
            clear hK K
            (try simp only [Act.put, List.setIfInBounds_toArray, List.set_cons_zero, List.set_cons_succ])
            refine wpAnyH_done (by kernel_rfl) ?_ _
            refine NoPanic.normal ?_
            go_wp2_with fail
            go_roundw
            case rel => exact ⟨k + 1, _, _, l6, b7, by go_num, hlt, HRBN.out, HD7.out⟩
            case measure => simp [intOf]; omega
      · have hend : k = be a4 ∨ b' = true := by
          by_cases hk2 : k < be a4
          · cases b' with
            | true => exact .inr rfl
            | false => exact absurd ⟨hk2, rfl⟩ hgo
          · exact .inl (by omega)
        have HS5 := Lib.hid (HS4.out.four HDR.out hend)
        by_cases hkm : k < be a4
        all_goals
          first
          | (have hb' : b' = true := hend.resolve_left (by omega)
             rw [hb'] at hc1
             clear hb')
          | skip
          clear hend hgo
          go_wp2_with fail
          clear hc1
          refine (number_any (w.heap.size + 1) l' b' 4 _ HRB.out.tk (by omega) (by omega)).mono ?_
          generalize htk : tkText 4 l' b' = q8
          obtain ⟨a8, l8, b8⟩ := q8
          rintro e w8 ⟨rfl, ht8, hg8⟩
          have hl8 : l8.length ≤ 65536 := by have := (tkText_len 4 l' b').2.1; rw [htk] at this; exact Nat.le_trans this hll
          have HS6 := Lib.hid (HS5.out.five htk)
          have hrb8 := HRB.out.step hg8 ht8
          obtain ⟨_, _, _, _, k4, kf⟩ := hrb8.boxCells
          have kf4 := kf 4
          have HRB9 := Lib.hid (hrb8.field 4 (.int .i64 (be a8)) (sm' := be a8) rfl)
          clear ht8 hg8 htk HRB HS5 kf hrb8
          go_wp2_with fail
          clear k4 kf4
          generalize w8.setCell ⟨w1.heap.size, 4, none⟩ (.int .i64 (be a8)) = w9 at HRB9 ⊢
          refine (number_any (w.heap.size + 1) l8 b8 4 _ HRB9.out.tk (by omega) (by omega)).mono ?_
          generalize htk : tkText 4 l8 b8 = q10
          obtain ⟨a10, l10, b10⟩ := q10
          rintro e w10 ⟨rfl, ht10, hg10⟩
          have HS7 := Lib.hid (HS6.out.six htk)
          have hrb10 := HRB9.out.step hg10 ht10
          obtain ⟨c0, c1, _⟩ := hrb10.tk.cells
          obtain ⟨D, dc, rfl, _⟩ := own_form hrb10.own
          obtain ⟨g0, g1, g2, g3, g4, _⟩ := hrb10.boxCells
          have HRB10 := Lib.hid hrb10
          clear ht10 hg10 htk HRB9 HS6 hrb10
          cases b10 with
          | true =>
            have HZ : Hid (readM l = (bkZero, 3)) := HRM.out none (HS7.out.isBad rfl)
            obtain ⟨r0, r1, r2, r3, r4, rf⟩ := HRB10.out.resCells
            have rf0 := rf 0
            have rf1 := rf 1
            have rf2 := rf 2
            have rf3 := rf 3
            have rf4 := rf 4
            have HK := Lib.hid (HRB10.out.out5 (.string ⟨#[]⟩) (.string ⟨#[]⟩) (.int .i64 0) (.slice none 0 0) (.int .i64 0))
            clear rf
            go_wp2_with fail
            generalize (((((w10.setCell ⟨w.heap.size, 0, none⟩ (.string ⟨#[]⟩)).setCell ⟨w.heap.size, 1, none⟩ (.string ⟨#[]⟩)).setCell ⟨w.heap.size, 2, none⟩ (.int .i64 0)).setCell ⟨w.heap.size, 3, none⟩ (.slice none 0 0)).setCell ⟨w.heap.size, 4, none⟩ (.int .i64 0)) = W5 at HK ⊢
            obtain ⟨z0, z1, z2, z3, z4, hb5, _⟩ := HK.out
            refine bodyPost_ret (v := .tuple #[bkV ⟨#[]⟩ ⟨#[]⟩ 0 none 0 0 0, .int .i64 3]) (by simp [results, Try.results149, go_sem, z0, z1, z2, z3, z4]) rfl ?_
            rw [HZ.out]
            exact ⟨none, 0, rfl, own_nilRow _ _ _ _, hb5⟩
          | false =>
            by_cases hl0 : l10 = []
            case neg =>
              have HZ : Hid (readM l = (bkZero, 3)) := HRM.out none (by rw [HS7.out.good rfl]; unfold K7; rw [if_neg (by intro h; exact hl0 (List.eq_nil_of_length_eq_zero h))])
              have e0 : l10.isEmpty = false := by cases l10 <;> simp_all
              clear hl0
              obtain ⟨r0, r1, r2, r3, r4, rf⟩ := HRB10.out.resCells
              have rf0 := rf 0
              have rf1 := rf 1
              have rf2 := rf 2
              have rf3 := rf 3
              have rf4 := rf 4
              have HK := Lib.hid (HRB10.out.out5 (.string ⟨#[]⟩) (.string ⟨#[]⟩) (.int .i64 0) (.slice none 0 0) (.int .i64 0))
              clear rf
              go_wp2_with fail
              generalize (((((w10.setCell ⟨w.heap.size, 0, none⟩ (.string ⟨#[]⟩)).setCell ⟨w.heap.size, 1, none⟩ (.string ⟨#[]⟩)).setCell ⟨w.heap.size, 2, none⟩ (.int .i64 0)).setCell ⟨w.heap.size, 3, none⟩ (.slice none 0 0)).setCell ⟨w.heap.size, 4, none⟩ (.int .i64 0)) = W5 at HK ⊢
              obtain ⟨z0, z1, z2, z3, z4, hb5, _⟩ := HK.out
              refine bodyPost_ret (v := .tuple #[bkV ⟨#[]⟩ ⟨#[]⟩ 0 none 0 0 0, .int .i64 3]) (by simp [results, Try.results149, go_sem, z0, z1, z2, z3, z4]) rfl ?_
              rw [HZ.out]
              exact ⟨none, 0, rfl, own_nilRow _ _ _ _, hb5⟩
            subst hl0
            have hP : P0 = some ⟨bs n0, bs n1, be a1, ds, be a8, be a10⟩ := by rw [HS7.out.good rfl]; rfl
            have hm := HRM.out _ hP
            obtain ⟨z1, z2, z3⟩ := HSZ.out _ hP
            have HM := Lib.hid hm
            have hdsl : ds.length ≤ 255 := by have := HDL.out; omega
            have HOK := Lib.hid (implBackupOK_any (bs n0) (bs n1) (be a1) D ds dc (be a8) _ (Rd.own HRB10.out.own) (by omega) (Nat.le_trans z1 (by simp only [maxLen]; omega)) (Nat.le_trans z2 (by simp only [maxLen]; omega)) z3)
            clear hP hm z1 z2 z3
            go_wp2_with fail
            refine HOK.out.mono ?_
            rintro e w11 ⟨rfl, hb11⟩
            have hrb11 := HRB10.out.old hb11
            obtain ⟨h0, h1, h2, h3, h4, _⟩ := hrb11.boxCells
            have HRB11 := Lib.hid hrb11
            clear hb11 hrb11 c0 c1 g0 g1 g2 g3 g4 HRB10 HOK
            cases hbk : bkB (bs n0) (bs n1) (be a1) ds (be a8) with
            | false =>
              have HZ : Hid (readM l = (bkZero, 3)) := by
                show _ = _
                rw [HM.out]
                exact finM_bad hbk
              clear hbk
              obtain ⟨r0, r1, r2, r3, r4, rf⟩ := HRB11.out.resCells
              have rf0 := rf 0
              have rf1 := rf 1
              have rf2 := rf 2
              have rf3 := rf 3
              have rf4 := rf 4
              have HK := Lib.hid (HRB11.out.out5 (.string ⟨#[]⟩) (.string ⟨#[]⟩) (.int .i64 0) (.slice none 0 0) (.int .i64 0))
              clear rf
              go_wp2_with fail
              generalize (((((w11.setCell ⟨w.heap.size, 0, none⟩ (.string ⟨#[]⟩)).setCell ⟨w.heap.size, 1, none⟩ (.string ⟨#[]⟩)).setCell ⟨w.heap.size, 2, none⟩ (.int .i64 0)).setCell ⟨w.heap.size, 3, none⟩ (.slice none 0 0)).setCell ⟨w.heap.size, 4, none⟩ (.int .i64 0)) = W5 at HK ⊢
              obtain ⟨z0, z1, z2, z3, z4, hb5, ho5⟩ := HK.out
              refine bodyPost_ret (v := .tuple #[bkV ⟨#[]⟩ ⟨#[]⟩ 0 none 0 0 0, .int .i64 3]) (by simp [results, Try.results149, go_sem, z0, z1, z2, z3, z4]) rfl ?_
              rw [HZ.out]
              exact ⟨none, 0, rfl, own_nilRow _ _ _ _, hb5⟩
            | true =>
              have hr := Bk.ok_r (m := ⟨bs n0, bs n1, be a1, D, ds, dc, be a8⟩) hbk
              have HR9 := Lib.hid hr
              have HBKT := Lib.hid hbk
              clear hbk hr
              go_wp2_with fail
              refine (link_any w1.heap.size (bs n0) (bs n1) (be a1) D ds dc (be a8) _ (by exact bkAt_box (m := ⟨bs n0, bs n1, be a1, D, ds, dc, be a8⟩) (cs := #[]) HRB11.out.box HR9.out (Rd.own HRB11.out.own)) (by exact HR9.out.bkok)).mono ?_
              rintro e w12 ⟨rfl, hb12⟩
              have hrb12 := HRB11.out.old hb12
              have HRB12 := Lib.hid hrb12
              obtain ⟨j0, j1, j2, j3, j4, _⟩ := hrb12.boxCells
              obtain ⟨L, hL⟩ : ∃ L, L = linkM (bs n0) (bs n1) (be a1) ds (be a8) := ⟨_, rfl⟩
              rw [← hL]
              have HL := Lib.hid hL
              clear hb12 hrb12 h0 h1 h2 h3 h4 hL HRB11
              by_cases heq : be a10 = L
              case neg =>
                have HZ : Hid (readM l = (bkZero, 8)) := by
                  show _ = _
                  rw [HM.out]
                  exact finM_sum HBKT.out (by show ¬ be a10 = linkM _ _ _ _ _; rw [← HL.out]; exact heq)
                have q1 : ((be a10 : Int) == (L : Int)) = false := by rw [beq_eq_false_iff_ne]; omega
                have q2 : ((be a10 : Int) != (L : Int)) = true := by rw [bne_iff_ne]; omega
                clear heq
                obtain ⟨r0, r1, r2, r3, r4, rf⟩ := HRB12.out.resCells
                have rf0 := rf 0
                have rf1 := rf 1
                have rf2 := rf 2
                have rf3 := rf 3
                have rf4 := rf 4
                have HK := Lib.hid (HRB12.out.out5 (.string ⟨#[]⟩) (.string ⟨#[]⟩) (.int .i64 0) (.slice none 0 0) (.int .i64 0))
                clear rf
                go_wp2_with fail
                generalize (((((w12.setCell ⟨w.heap.size, 0, none⟩ (.string ⟨#[]⟩)).setCell ⟨w.heap.size, 1, none⟩ (.string ⟨#[]⟩)).setCell ⟨w.heap.size, 2, none⟩ (.int .i64 0)).setCell ⟨w.heap.size, 3, none⟩ (.slice none 0 0)).setCell ⟨w.heap.size, 4, none⟩ (.int .i64 0)) = W5 at HK ⊢
                obtain ⟨z0, z1, z2, z3, z4, hb5, ho5⟩ := HK.out
                refine bodyPost_ret (v := .tuple #[bkV ⟨#[]⟩ ⟨#[]⟩ 0 none 0 0 0, .int .i64 8]) (by simp [results, Try.results149, go_sem, z0, z1, z2, z3, z4]) rfl ?_
                rw [HZ.out]
                exact ⟨none, 0, rfl, own_nilRow _ _ _ _, hb5⟩
              case pos =>
                have HZ : Hid (readM l = (⟨bs n0, bs n1, be a1, ds, be a8, be a10⟩, 0)) := by
                  show _ = _
                  rw [HM.out]
                  exact finM_ok HBKT.out (by show be a10 = linkM _ _ _ _ _; rw [← HL.out]; exact heq)
                have q1 : ((be a10 : Int) == (L : Int)) = true := by rw [heq]; simp
                have q2 : ((be a10 : Int) != (L : Int)) = false := by rw [heq]; simp
                clear heq
                obtain ⟨r0, r1, r2, r3, r4, rf⟩ := HRB12.out.resCells
                have rf0 := rf 0
                have rf1 := rf 1
                have rf2 := rf 2
                have rf3 := rf 3
                have rf4 := rf 4
                have HK := Lib.hid (HRB12.out.out5 (.string (bs n0)) (.string (bs n1)) (.int .i64 (be a1)) (.slice D ds.length dc) (.int .i64 (be a8)))
                clear rf
                go_wp2_with fail
                generalize (((((w12.setCell ⟨w.heap.size, 0, none⟩ (.string (bs n0))).setCell ⟨w.heap.size, 1, none⟩ (.string (bs n1))).setCell ⟨w.heap.size, 2, none⟩ (.int .i64 (be a1))).setCell ⟨w.heap.size, 3, none⟩ (.slice D ds.length dc)).setCell ⟨w.heap.size, 4, none⟩ (.int .i64 (be a8))) = W5 at HK ⊢
                obtain ⟨z0, z1, z2, z3, z4, hb5, ho5⟩ := HK.out
                refine bodyPost_ret (v := .tuple #[bkV (bs n0) (bs n1) (be a1) D ds.length dc (be a8), .int .i64 0]) (by simp [results, Try.results149, go_sem, z0, z1, z2, z3, z4]) rfl ?_
                rw [HZ.out]
                exact ⟨D, dc, rfl, ho5, hb5⟩
end Go.Proofs.Ytlfnpnkpjdmonaa
