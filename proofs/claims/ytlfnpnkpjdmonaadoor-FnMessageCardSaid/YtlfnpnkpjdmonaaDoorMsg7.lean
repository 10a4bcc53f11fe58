import Derived.Test.YtlfnpnkpjdmonaaDoorMsg6
set_option linter.unusedVariables false
set_option linter.unusedSimpArgs false
namespace Go.Proofs.YtlfnpnkpjdmonaaDoor
open Go.RowKit

/-! ### ParseMessage of both sides -/
noncomputable def pmM (l : List UInt8) : (List Pr × ByteArray) × Int := if 65536 < l.length then (([], ⟨#[]⟩), 2) else match parI l with | none => (([], ⟨#[]⟩), 3) | some p => ((p.1, bs p.2), 0)
def PMPost (q : (List Pr × ByteArray) × Int) (w : World) (e : Ending) (w' : World) : Prop := ∃ A c, e = .returned (.tuple #[msgV A q.1.1.length c q.1.2, .int .i64 q.2]) ∧ w'.ownsRow w.heap.size 49 2 (.slice A q.1.1.length c) q.1.1.length (flat encP q.1.1) ∧ Below w.heap.size w w'
/-- a result of two cells, stored -/
theorem res_out2 {w wr : World} {a b : Value} {T : TypeId} (h : wr.heap[w.heap.size]? = some (.cells #[a, b] T (0, 0))) (hb : Below w.heap.size w wr) (u v : Value) :
    let W := (wr.setCell ⟨w.heap.size, 0, none⟩ u).setCell ⟨w.heap.size, 1, none⟩ v
    W.cell? ⟨w.heap.size, 0, none⟩ = some u ∧ W.cell? ⟨w.heap.size, 1, none⟩ = some v ∧ Below w.heap.size w W ∧ ∀ (e : TypeId) (size n : Nat) (x : Value) (xs : List Value), wr.ownsRow (w.heap.size + 1) e size x n xs → W.ownsRow w.heap.size e size x n xs := by
  intro W
  have e1 := heap_setCell_same wr w.heap.size 0 _ _ u h
  have e2 : W.heap[w.heap.size]? = some (.cells #[u, v] T (0, 0)) := by
    have := heap_setCell_same _ w.heap.size 1 _ _ v e1
    simpa using this
  exact ⟨by rw [cell_of_row W _ 0 _ _ _ e2]; rfl, by rw [cell_of_row W _ 1 _ _ _ e2]; rfl, (hb.setCell (p := ⟨w.heap.size, 0, none⟩) (Nat.le_refl _) _).setCell (p := ⟨w.heap.size, 1, none⟩) (Nat.le_refl _) _, fun e size n x xs ho => own_mono (ownSet (ownSet ho (by omega) 0 u) (by omega) 1 v) (by omega)⟩
/-- .. with a box laid behind -/
theorem res_out2a {w wr : World} {a b : Value} {T : TypeId} (h : wr.heap[w.heap.size]? = some (.cells #[a, b] T (0, 0))) (hb : Below w.heap.size w wr) (u v : Value) (o : Obj) :
    let W := ((wr.setCell ⟨w.heap.size, 0, none⟩ u).setCell ⟨w.heap.size, 1, none⟩ v).alloc o
    W.cell? ⟨w.heap.size, 0, none⟩ = some u ∧ W.cell? ⟨w.heap.size, 1, none⟩ = some v ∧ Below w.heap.size w W ∧ ∀ (e : TypeId) (size n : Nat) (x : Value) (xs : List Value), wr.ownsRow (w.heap.size + 1) e size x n xs → W.ownsRow w.heap.size e size x n xs := by
  intro W
  obtain ⟨h1, h2, h3, h4⟩ := res_out2 h hb u v
  have hl : w.heap.size < ((wr.setCell ⟨w.heap.size, 0, none⟩ u).setCell ⟨w.heap.size, 1, none⟩ v).heap.size := by simpa using (Array.getElem?_eq_some_iff.1 h).1
  have hA : Below ((wr.setCell ⟨w.heap.size, 0, none⟩ u).setCell ⟨w.heap.size, 1, none⟩ v).heap.size ((wr.setCell ⟨w.heap.size, 0, none⟩ u).setCell ⟨w.heap.size, 1, none⟩ v) W := (Below.refl _ _).alloc (Nat.le_refl _) o
  exact ⟨(hA.cell (p := ⟨w.heap.size, 0, none⟩) hl).trans h1, (hA.cell (p := ⟨w.heap.size, 1, none⟩) hl).trans h2, below_after h3 hA, fun e size n x xs ho => own_below (h4 e size n x xs ho) hA⟩
theorem row_cells {wr : World} {g : Nat} {a b : Value} {T : TypeId} (h : wr.heap[g]? = some (.cells #[a, b] T (0, 0))) : wr.cell? ⟨g, 0, none⟩ = some a ∧ wr.cell? ⟨g, 1, none⟩ = some b ∧ ∀ i, wr.frozen? ⟨g, i, none⟩ = false :=
  ⟨by rw [cell_of_row wr _ 0 _ _ _ h]; rfl, by rw [cell_of_row wr _ 1 _ _ _ h]; rfl, fun i => Lib.frozen_of_heap h i⟩
theorem pm_bad {q : (List Pr × ByteArray) × Int} {w w' : World} {n : Int} (hq : q = (([], ⟨#[]⟩), n)) (hb : Below w.heap.size w w') : PMPost q w (.returned (.tuple #[msgV none 0 0 ⟨#[]⟩, .int .i64 n])) w' := by
  subst hq
  exact ⟨none, 0, rfl, own_nilRow _ _ _ _, hb⟩
set_option maxRecDepth 100000 in
set_option maxHeartbeats 2000000 in
theorem implParseMessage_any (l : List UInt8) (w : World) (hm : ML w) (hl : l.length ≤ 1048576) : Calls Tryd.prog 14 #[.string (bs l)] w (PMPost (pmM l) w) := by
  have hs0 := bs_size l
  have hr0 : (w.alloc (.cells #[.slice none 0 0, .string ⟨#[]⟩] 28)).heap[w.heap.size]? = some (.cells #[.slice none 0 0, .string ⟨#[]⟩] 28 (0, 0)) := heap_alloc_new _ _
  have hb0 : Below w.heap.size w (w.alloc (.cells #[.slice none 0 0, .string ⟨#[]⟩] 28)) := by repeat (first | exact Below.refl _ _ | assumption | refine Below.drew ?_ | refine below_drewN ?_ _ | refine Below.setCell ?_ (by first | exact Nat.le_refl _ | exact Below.size (by assumption) | (simp; done) | (simp; omega) | omega) _ | refine Below.alloc ?_ (by first | exact Nat.le_refl _ | exact Below.size (by assumption) | (simp; done) | (simp; omega) | omega) _)
  have hsz0 : (w.alloc (.cells #[.slice none 0 0, .string ⟨#[]⟩] 28)).heap.size = w.heap.size + 1 := by simp
  by_cases h1 : 65536 < l.length
  · have HN : Hid (pmM l = (([], ⟨#[]⟩), 2)) := if_pos h1
    obtain ⟨r0, r1, r2⟩ := row_cells hr0
    have HB0 := Lib.hid hb0
    have HO := Lib.hid (res_out2 hr0 hb0 (.slice none 0 0) (.string ⟨#[]⟩))
    clear hb0 hr0 hsz0
    go_enter Tryd.func14, Tryd.ntmps14
    go_wp2_with fail
    refine bodyPost_ret (v := .tuple #[msgV none 0 0 ⟨#[]⟩, .int .i64 2]) (by simp [results, Tryd.results14, go_sem, *]) rfl (pm_bad HN.out (by first | exact HO.out.2.2.1 | exact HB0.out | (repeat (first | exact Below.refl _ _ | assumption | refine Below.drew ?_ | refine below_drewN ?_ _ | refine Below.setCell ?_ (by first | exact Nat.le_refl _ | exact Below.size (by assumption) | (simp; done) | (simp; omega) | omega) _ | refine Below.alloc ?_ (by first | exact Nat.le_refl _ | exact Below.size (by assumption) | (simp; done) | (simp; omega) | omega) _))))
  have HQ : Hid (pmM l = match parI l with | none => (([], ⟨#[]⟩), 3) | some p => ((p.1, bs p.2), 0)) := if_neg h1
  have HC := Lib.hid (parse_any l _ (hm.below hb0) (by omega))
  clear hm
  have HB0 := Lib.hid hb0
  have HR0 := Lib.hid hr0
  have HSZ := Lib.hid hsz0
  clear hb0 hr0 hsz0
  go_enter Tryd.func14, Tryd.ntmps14
  go_wp2_with fail
  refine HC.out.mono ?_
  rintro e w1 ⟨fs, b, A, c, rfl, hp, hz, ho, hb⟩
  have hr1 : w1.heap[w.heap.size]? = some (.cells #[.slice none 0 0, .string ⟨#[]⟩] 28 (0, 0)) := (hb.block _ (by have := HSZ.out; omega)).trans HR0.out
  have hb1 : Below w.heap.size w w1 := below_after HB0.out hb
  have ho1 : w1.ownsRow (w.heap.size + 1) 49 2 (.slice A fs.length c) fs.length (flat encP fs) := by
    have h := ho
    rwa [HSZ.out] at h
  obtain ⟨r0, r1, r2⟩ := row_cells hr1
  have HP := Lib.hid hp
  have HO1 := Lib.hid ho1
  have hlt : w.heap.size < w1.heap.size := by have := hb.size; have := HSZ.out; omega
  clear hp hz ho hb ho1 HC
  cases he : parI l with
  | none =>
    rw [he] at HP
    simp only [Option.isSome_none]
    have HE := Lib.hid he
    clear he
    have HO := Lib.hid (res_out2a hr1 hb1 (.slice none 0 0) (.string ⟨#[]⟩) (.cells #[.slice A fs.length c, .string b] 28))
    clear hr1 hb1
    go_wp2_with fail
    generalize ((w1.setCell ⟨w.heap.size, 0, none⟩ (.slice none 0 0)).setCell ⟨w.heap.size, 1, none⟩ (.string ⟨#[]⟩)).alloc (.cells #[.slice A fs.length c, .string b] 28) = W5 at HO ⊢
    obtain ⟨z0, z1, hb5, _⟩ := HO.out
    refine bodyPost_ret (v := .tuple #[msgV none 0 0 ⟨#[]⟩, .int .i64 3]) (by simp [results, Tryd.results14, go_sem, z0, z1]) rfl (pm_bad (by rw [HQ.out, HE.out]) hb5)
  | some p =>
    rw [he] at HP
    simp only [Option.isSome_some]
    obtain ⟨e1, e2⟩ := HP.out p rfl
    have HE := Lib.hid (And.intro he (And.intro e1 e2))
    have HO := Lib.hid (res_out2a hr1 hb1 (.slice A fs.length c) (.string b) (.cells #[.slice A fs.length c, .string b] 28))
    clear hr1 hb1 e1 e2 he
    go_wp2_with fail
    generalize ((w1.setCell ⟨w.heap.size, 0, none⟩ (.slice A fs.length c)).setCell ⟨w.heap.size, 1, none⟩ (.string b)).alloc (.cells #[.slice A fs.length c, .string b] 28) = W5 at HO ⊢
    obtain ⟨z0, z1, hb5, hown⟩ := HO.out
    refine bodyPost_ret (v := .tuple #[msgV A fs.length c b, .int .i64 0]) (by simp [results, Tryd.results14, go_sem, z0, z1]) rfl ?_
    have e : pmM l = ((fs, b), 0) := by rw [HQ.out, HE.out.1]; simp only [HE.out.2.1, HE.out.2.2]
    rw [e]
    exact ⟨A, c, rfl, hown _ _ _ _ _ HO1.out, hb5⟩
set_option maxRecDepth 100000 in
set_option maxHeartbeats 2000000 in
theorem specParseMessage_any (l : List UInt8) (w : World) (hl : l.length ≤ 1048576) : Calls Tryd.prog 13 #[.string (bs l)] w (PMPost (pmM l) w) := by
  have hs0 := bs_size l
  have hr0 : (w.alloc (.cells #[.slice none 0 0, .string ⟨#[]⟩] 28)).heap[w.heap.size]? = some (.cells #[.slice none 0 0, .string ⟨#[]⟩] 28 (0, 0)) := heap_alloc_new _ _
  have hb0 : Below w.heap.size w (w.alloc (.cells #[.slice none 0 0, .string ⟨#[]⟩] 28)) := by repeat (first | exact Below.refl _ _ | assumption | refine Below.drew ?_ | refine below_drewN ?_ _ | refine Below.setCell ?_ (by first | exact Nat.le_refl _ | exact Below.size (by assumption) | (simp; done) | (simp; omega) | omega) _ | refine Below.alloc ?_ (by first | exact Nat.le_refl _ | exact Below.size (by assumption) | (simp; done) | (simp; omega) | omega) _)
  have hsz0 : (w.alloc (.cells #[.slice none 0 0, .string ⟨#[]⟩] 28)).heap.size = w.heap.size + 1 := by simp
  by_cases h1 : 65536 < l.length
  · have HN : Hid (pmM l = (([], ⟨#[]⟩), 2)) := if_pos h1
    obtain ⟨r0, r1, r2⟩ := row_cells hr0
    have HB0 := Lib.hid hb0
    have HO := Lib.hid (res_out2 hr0 hb0 (.slice none 0 0) (.string ⟨#[]⟩))
    clear hb0 hr0 hsz0
    go_enter Tryd.func13, Tryd.ntmps13
    go_wp2_with fail
    refine bodyPost_ret (v := .tuple #[msgV none 0 0 ⟨#[]⟩, .int .i64 2]) (by simp [results, Tryd.results13, go_sem, *]) rfl (pm_bad HN.out (by first | exact HO.out.2.2.1 | exact HB0.out | (repeat (first | exact Below.refl _ _ | assumption | refine Below.drew ?_ | refine below_drewN ?_ _ | refine Below.setCell ?_ (by first | exact Nat.le_refl _ | exact Below.size (by assumption) | (simp; done) | (simp; omega) | omega) _ | refine Below.alloc ?_ (by first | exact Nat.le_refl _ | exact Below.size (by assumption) | (simp; done) | (simp; omega) | omega) _))))
  have HQ : Hid (pmM l = match parI l with | none => (([], ⟨#[]⟩), 3) | some p => ((p.1, bs p.2), 0)) := if_neg h1
  have HC := Lib.hid (l08Parse_any l (w.alloc (.cells #[.slice none 0 0, .string ⟨#[]⟩] 28)) hl)
  have HB0 := Lib.hid hb0
  have HR0 := Lib.hid hr0
  have HSZ := Lib.hid hsz0
  clear hb0 hr0 hsz0
  go_enter Tryd.func13, Tryd.ntmps13
  go_wp2_with fail
  refine HC.out.mono ?_
  rintro e w1 ⟨fs, b, A, c, rfl, hp, hz, ho, hb⟩
  have hr1 : w1.heap[w.heap.size]? = some (.cells #[.slice none 0 0, .string ⟨#[]⟩] 28 (0, 0)) := (hb.block _ (by have := HSZ.out; omega)).trans HR0.out
  have hb1 : Below w.heap.size w w1 := below_after HB0.out hb
  have ho1 : w1.ownsRow (w.heap.size + 1) 49 2 (.slice A fs.length c) fs.length (flat encP fs) := by
    have h := ho
    rwa [HSZ.out] at h
  obtain ⟨r0, r1, r2⟩ := row_cells hr1
  have HP := Lib.hid hp
  have HO1 := Lib.hid ho1
  have hlt : w.heap.size < w1.heap.size := by have := hb.size; have := HSZ.out; omega
  clear hp hz ho hb ho1 HC
  cases he : parM l with
  | none =>
    rw [he] at HP
    simp only [Option.isSome_none]
    have HE : Hid (parI l = none) := by show parI l = _; rw [parI, he]; split <;> rfl
    clear he
    have HO := Lib.hid (res_out2a hr1 hb1 (.slice none 0 0) (.string ⟨#[]⟩) (.cells #[.slice A fs.length c, .string b] 28))
    clear hr1 hb1
    go_wp2_with fail
    generalize ((w1.setCell ⟨w.heap.size, 0, none⟩ (.slice none 0 0)).setCell ⟨w.heap.size, 1, none⟩ (.string ⟨#[]⟩)).alloc (.cells #[.slice A fs.length c, .string b] 28) = W5 at HO ⊢
    obtain ⟨z0, z1, hb5, _⟩ := HO.out
    refine bodyPost_ret (v := .tuple #[msgV none 0 0 ⟨#[]⟩, .int .i64 3]) (by simp [results, Tryd.results13, go_sem, z0, z1]) rfl (pm_bad (by rw [HQ.out, HE.out]) hb5)
  | some p =>
    rw [he] at HP
    simp only [Option.isSome_some]
    by_cases h85 : 85 < l.length
    · have HE : Hid (parI l = none) := if_pos h85
      clear he
      have HO := Lib.hid (res_out2a hr1 hb1 (.slice none 0 0) (.string ⟨#[]⟩) (.cells #[.slice A fs.length c, .string b] 28))
      clear hr1 hb1
      go_wp2_with fail
      generalize ((w1.setCell ⟨w.heap.size, 0, none⟩ (.slice none 0 0)).setCell ⟨w.heap.size, 1, none⟩ (.string ⟨#[]⟩)).alloc (.cells #[.slice A fs.length c, .string b] 28) = W5 at HO ⊢
      obtain ⟨z0, z1, hb5, _⟩ := HO.out
      refine bodyPost_ret (v := .tuple #[msgV none 0 0 ⟨#[]⟩, .int .i64 3]) (by simp [results, Tryd.results13, go_sem, z0, z1]) rfl (pm_bad (by rw [HQ.out, HE.out]) hb5)
    have he' : parI l = some p := by rw [parI, if_neg h85, he]
    clear he
    have he := he'
    obtain ⟨e1, e2⟩ := HP.out p rfl
    have HE := Lib.hid (And.intro he (And.intro e1 e2))
    have HO := Lib.hid (res_out2a hr1 hb1 (.slice A fs.length c) (.string b) (.cells #[.slice A fs.length c, .string b] 28))
    clear hr1 hb1 e1 e2 he
    go_wp2_with fail
    generalize ((w1.setCell ⟨w.heap.size, 0, none⟩ (.slice A fs.length c)).setCell ⟨w.heap.size, 1, none⟩ (.string b)).alloc (.cells #[.slice A fs.length c, .string b] 28) = W5 at HO ⊢
    obtain ⟨z0, z1, hb5, hown⟩ := HO.out
    refine bodyPost_ret (v := .tuple #[msgV A fs.length c b, .int .i64 0]) (by simp [results, Tryd.results13, go_sem, z0, z1]) rfl ?_
    have e : pmM l = ((fs, b), 0) := by rw [HQ.out, HE.out.1]; simp only [HE.out.2.1, HE.out.2.2]
    rw [e]
    exact ⟨A, c, rfl, hown _ _ _ _ _ HO1.out, hb5⟩
end Go.Proofs.YtlfnpnkpjdmonaaDoor
