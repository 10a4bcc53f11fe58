import Derived.Test.YtlfnpnkpjdmonaaNode2
import Derived.Test.YtlfnpnkpjdmonaaPairClone
import Derived.Test.YtlfnpnkpjdmonaaReadFields
import Derived.Deep.RegionLaw
set_option linter.unusedVariables false
set_option linter.unusedSimpArgs false
namespace Go.Proofs.Ytlfnpnkpjdmonaa
open Go.RowKit

/-! ### nodes out of fields -/
theorem elInt : ElT Try.prog 94 3 1 8 := by
  have hi : (Try.prog.info? 3).map (fun i => (i.zero, i.size, i.bytes)) = some (some (.int .i64 0), 1, 8) := by kernel_rfl
  obtain ⟨i, hi, hz, hs, hb⟩ := info_parts hi
  exact ⟨i, _, Try.underlying94, hi, hz, hs, hb, rfl, by decide⟩
theorem own_ne_blk' {w : World} {base e size n g T : Nat} {v : Value} {xs : List Value} {cs : Array Value} {fr : Nat × Nat} (h : w.ownsRow base e size v n xs) (hg : w.heap[g]? = some (.cells cs T fr)) (hT : T ≠ e) : v.ownBlock ≠ some g := by
  rcases h.2 with ⟨rfl, _⟩ | ⟨g', cap, cur, rfl, _, hg', _⟩
  · simp [Value.ownBlock]
  · intro e1
    simp only [Value.ownBlock, Option.some.injEq] at e1
    subst e1
    rw [hg'] at hg
    injection hg with hg
    injection hg with _ h2 _
    exact hT h2.symm
structure Nd where
  lf : Bool
  l : List Pr
  ls : List ByteArray
  ks : List Int
def ndZ : Nd := ⟨false, [], [], []⟩
/-- a node in memory of the call's own -/
structure NdOwn (w : World) (base : Nat) (q : Nd) (A : Option Addr) (ca : Nat) (B : Option Addr) (cb : Nat) (C : Option Addr) (cc : Nat) : Prop where
  p : w.ownsRow base 82 2 (.slice A q.l.length ca) q.l.length (flat encP q.l)
  s : w.ownsRow base 9 1 (.slice B q.ls.length cb) q.ls.length (q.ls.map Value.string)
  k : w.ownsRow base 3 1 (.slice C q.ks.length cc) q.ks.length (q.ks.map ivi)
theorem NdOwn.below {w w' : World} {base : Nat} {q : Nd} {A B C : Option Addr} {ca cb cc : Nat} (h : NdOwn w base q A ca B cb C cc) (hb : Below w.heap.size w w') : NdOwn w' base q A ca B cb C cc := ⟨own_below h.p hb, own_below h.s hb, own_below h.k hb⟩
theorem NdOwn.mono {w : World} {base base' : Nat} {q : Nd} {A B C : Option Addr} {ca cb cc : Nat} (h : NdOwn w base q A ca B cb C cc) (hb : base' ≤ base) : NdOwn w base' q A ca B cb C cc := ⟨own_mono h.p hb, own_mono h.s hb, own_mono h.k hb⟩
theorem own_nilR (w : World) (base e size : Nat) : w.ownsRow base e size (.slice none 0 0) 0 [] := ⟨by simp, .inl ⟨rfl, rfl⟩⟩
theorem NdOwn.zero (w : World) (base : Nat) : NdOwn w base ndZ none 0 none 0 none 0 := ⟨own_nilR _ _ _ _, own_nilR _ _ _ _, own_nilR _ _ _ _⟩
@[reducible] def Nd.v (q : Nd) (A : Option Addr) (ca : Nat) (B : Option Addr) (cb : Nat) (C : Option Addr) (cc : Nat) : Value := ndV q.lf A q.l.length ca B q.ls.length cb C q.ks.length cc
/-- a node that is being made: its box, what is in it, and the rows -/
structure NB (w wr : World) (gb : Nat) (lf : Bool) (bP bL bK vP : Value) (l : List Pr) (vL : Value) (ls : List ByteArray) (vK : Value) (ks : List Int) : Prop where
  res : wr.heap[w.heap.size]? = some (.cells #[.bool false, .slice none 0 0, .slice none 0 0, .slice none 0 0] 96 (0, 0))
  box : wr.heap[gb]? = some (.cells #[.bool lf, bP, bL, bK] 96 (0, 0))
  p : wr.ownsRow w.heap.size 82 2 vP l.length (flat encP l)
  s : wr.ownsRow w.heap.size 9 1 vL ls.length (ls.map Value.string)
  k : wr.ownsRow w.heap.size 3 1 vK ks.length (ks.map ivi)
  below : Below w.heap.size w wr
  gt : w.heap.size < gb
section
variable {w wr w' : World} {gb : Nat} {lf : Bool} {bP bL bK vP vL vK : Value} {l : List Pr} {ls : List ByteArray} {ks : List Int}
theorem NB.gl (h : NB w wr gb lf bP bL bK vP l vL ls vK ks) : gb < wr.heap.size := (Array.getElem?_eq_some_iff.1 h.box).1
theorem NB.rl (h : NB w wr gb lf bP bL bK vP l vL ls vK ks) : w.heap.size < wr.heap.size := (Array.getElem?_eq_some_iff.1 h.res).1
theorem NB.old (h : NB w wr gb lf bP bL bK vP l vL ls vK ks) (hb : Below wr.heap.size wr w') : NB w w' gb lf bP bL bK vP l vL ls vK ks :=
  ⟨(hb.block _ h.rl).trans h.res, (hb.block _ h.gl).trans h.box, own_below h.p hb, own_below h.s hb, own_below h.k hb, below_after h.below hb, h.gt⟩
theorem NB.drew (h : NB w wr gb lf bP bL bK vP l vL ls vK ks) : NB w wr.drew gb lf bP bL bK vP l vL ls vK ks := ⟨h.res, h.box, h.p, h.s, h.k, h.below.drew, h.gt⟩
theorem NB.cells (h : NB w wr gb lf bP bL bK vP l vL ls vK ks) : wr.cell? ⟨gb, 0, none⟩ = some (.bool lf) ∧ wr.cell? ⟨gb, 1, none⟩ = some bP ∧ wr.cell? ⟨gb, 2, none⟩ = some bL ∧ wr.cell? ⟨gb, 3, none⟩ = some bK := nd_cells h.box
theorem NB.froz (h : NB w wr gb lf bP bL bK vP l vL ls vK ks) (i : Nat) : wr.frozen? ⟨gb, i, none⟩ = false := Lib.frozen_of_heap h.box i
theorem NB.resCells (h : NB w wr gb lf bP bL bK vP l vL ls vK ks) : wr.cell? ⟨w.heap.size, 0, none⟩ = some (.bool false) ∧ wr.cell? ⟨w.heap.size, 1, none⟩ = some (.slice none 0 0) ∧ wr.cell? ⟨w.heap.size, 2, none⟩ = some (.slice none 0 0) ∧ wr.cell? ⟨w.heap.size, 3, none⟩ = some (.slice none 0 0) ∧ ∀ i, wr.frozen? ⟨w.heap.size, i, none⟩ = false :=
  let ⟨a, b, c, d⟩ := nd_cells h.res; ⟨a, b, c, d, fun i => Lib.frozen_of_heap h.res i⟩
theorem kept_ne {e e' : TypeId} {s s' n n' : Nat} {u v : Value} {xs ys : List Value} {base : Nat} (ho : wr.ownsRow base e' s' u n' ys) (hv : wr.ownsRow base e s v n xs) (hT : e ≠ e') (hg : wr.grownBy w' v.ownBlock) : w'.ownsRow base e' s' u n' ys := by
  refine ho.kept hg ?_
  by_cases hu : u.ownBlock = none
  · exact .inl hu
  · refine .inr fun h => ?_
    rcases hv.2 with ⟨hv, _⟩ | ⟨g', cap, cur, hv, _, hgx, _⟩
    · subst hv; exact hu h
    · subst hv; exact own_ne_blk' ho hgx hT h
theorem NB.blk {e : TypeId} {s n : Nat} {v : Value} {xs : List Value} (h : NB w wr gb lf bP bL bK vP l vL ls vK ks) (hv : wr.ownsRow w.heap.size e s v n xs) (hT : 96 ≠ e) (hg : wr.grownBy w' v.ownBlock) : w'.heap[w.heap.size]? = some (.cells #[.bool false, .slice none 0 0, .slice none 0 0, .slice none 0 0] 96 (0, 0)) ∧ w'.heap[gb]? = some (.cells #[.bool lf, bP, bL, bK] 96 (0, 0)) :=
  ⟨(hg.block _ h.rl (fun e => own_ne_blk' hv h.res hT e.symm)).trans h.res, (hg.block _ h.gl (fun e => own_ne_blk' hv h.box hT e.symm)).trans h.box⟩
theorem NB.pushP {p : Pr} {v' : Value} (h : NB w wr gb lf bP bL bK vP l vL ls vK ks) (hp : Pushed w.heap.size 82 2 vP (l.length + 1) (flat encP l ++ encP p) wr v' w') : NB w w' gb lf bP bL bK v' (l ++ [p]) vL ls vK ks := by
  obtain ⟨r1, r2⟩ := h.blk h.p (by decide) hp.2
  refine ⟨r1, r2, ?_, kept_ne h.s h.p (by decide) hp.2, kept_ne h.k h.p (by decide) hp.2, hp.below h.p h.below (Nat.le_of_lt h.rl), h.gt⟩
  rw [flat_append, List.length_append, flat_cons, flat_nil, List.append_nil]
  exact hp.1
theorem NB.pushL {x : ByteArray} {v' : Value} (h : NB w wr gb lf bP bL bK vP l vL ls vK ks) (hp : Pushed w.heap.size 9 1 vL (ls.length + 1) (ls.map Value.string ++ [.string x]) wr v' w') : NB w w' gb lf bP bL bK vP l v' (ls ++ [x]) vK ks := by
  obtain ⟨r1, r2⟩ := h.blk h.s (by decide) hp.2
  refine ⟨r1, r2, kept_ne h.p h.s (by decide) hp.2, ?_, kept_ne h.k h.s (by decide) hp.2, hp.below h.s h.below (Nat.le_of_lt h.rl), h.gt⟩
  rw [List.map_append, List.length_append]
  exact hp.1
theorem NB.pushK {z : Int} {v' : Value} (h : NB w wr gb lf bP bL bK vP l vL ls vK ks) (hp : Pushed w.heap.size 3 1 vK (ks.length + 1) (ks.map ivi ++ [ivi z]) wr v' w') : NB w w' gb lf bP bL bK vP l vL ls v' (ks ++ [z]) := by
  obtain ⟨r1, r2⟩ := h.blk h.k (by decide) hp.2
  refine ⟨r1, r2, kept_ne h.p h.k (by decide) hp.2, kept_ne h.s h.k (by decide) hp.2, ?_, hp.below h.k h.below (Nat.le_of_lt h.rl), h.gt⟩
  rw [List.map_append, List.length_append]
  exact hp.1
theorem NB.put (h : NB w wr gb lf bP bL bK vP l vL ls vK ks) (i : Nat) (u : Value) {bP' bL' bK' : Value} (hu : (#[.bool lf, bP, bL, bK] : Array Value).setIfInBounds i u = #[.bool lf, bP', bL', bK']) : NB w (wr.setCell ⟨gb, i, none⟩ u) gb lf bP' bL' bK' vP l vL ls vK ks := by
  have hne : ∀ {e : TypeId} {s n : Nat} {v : Value} {xs : List Value}, 96 ≠ e → wr.ownsRow w.heap.size e s v n xs → (wr.setCell ⟨gb, i, none⟩ u).ownsRow w.heap.size e s v n xs := fun hT ho => ho.kept (grown_set _ _ _ _) (.inr (own_ne_blk' ho h.box hT))
  have h1 := h.gt
  exact ⟨(heap_setCell_other _ _ _ _ (by show w.heap.size ≠ gb; omega)).trans h.res, (heap_setCell_same _ _ _ _ _ _ h.box).trans (by rw [hu]), hne (by decide) h.p, hne (by decide) h.s, hne (by decide) h.k, h.below.setCell (p := ⟨gb, i, none⟩) (Nat.le_of_lt h.gt) _, h.gt⟩
theorem row_put {e : TypeId} {sz n g T i base : Nat} {v u : Value} {xs : List Value} {cs : Array Value} {fr : Nat × Nat} (ho : wr.ownsRow base e sz v n xs) (hg : wr.heap[g]? = some (.cells cs T fr)) (hT : T ≠ e) : (wr.setCell ⟨g, i, none⟩ u).ownsRow base e sz v n xs := ho.kept (grown_set _ _ _ _) (.inr (own_ne_blk' ho hg hT))
theorem NB.res4 (h : NB w wr gb lf bP bL bK vP l vL ls vK ks) (u0 u1 u2 u3 : Value) :
    ((((wr.setCell ⟨w.heap.size, 0, none⟩ u0).setCell ⟨w.heap.size, 1, none⟩ u1).setCell ⟨w.heap.size, 2, none⟩ u2).setCell ⟨w.heap.size, 3, none⟩ u3).heap[w.heap.size]? = some (.cells #[u0, u1, u2, u3] 96 (0, 0)) ∧
    ((((wr.setCell ⟨w.heap.size, 0, none⟩ u0).setCell ⟨w.heap.size, 1, none⟩ u1).setCell ⟨w.heap.size, 2, none⟩ u2).setCell ⟨w.heap.size, 3, none⟩ u3).heap[gb]? = some (.cells #[.bool lf, bP, bL, bK] 96 (0, 0)) ∧
    ((((wr.setCell ⟨w.heap.size, 0, none⟩ u0).setCell ⟨w.heap.size, 1, none⟩ u1).setCell ⟨w.heap.size, 2, none⟩ u2).setCell ⟨w.heap.size, 3, none⟩ u3).ownsRow w.heap.size 82 2 vP l.length (flat encP l) ∧
    ((((wr.setCell ⟨w.heap.size, 0, none⟩ u0).setCell ⟨w.heap.size, 1, none⟩ u1).setCell ⟨w.heap.size, 2, none⟩ u2).setCell ⟨w.heap.size, 3, none⟩ u3).ownsRow w.heap.size 9 1 vL ls.length (ls.map Value.string) ∧
    ((((wr.setCell ⟨w.heap.size, 0, none⟩ u0).setCell ⟨w.heap.size, 1, none⟩ u1).setCell ⟨w.heap.size, 2, none⟩ u2).setCell ⟨w.heap.size, 3, none⟩ u3).ownsRow w.heap.size 3 1 vK ks.length (ks.map ivi) ∧
    Below w.heap.size w ((((wr.setCell ⟨w.heap.size, 0, none⟩ u0).setCell ⟨w.heap.size, 1, none⟩ u1).setCell ⟨w.heap.size, 2, none⟩ u2).setCell ⟨w.heap.size, 3, none⟩ u3) := by
  have e1 := heap_setCell_same wr w.heap.size 0 _ 96 u0 h.res
  have e2 := heap_setCell_same _ w.heap.size 1 _ 96 u1 e1
  have e3 := heap_setCell_same _ w.heap.size 2 _ 96 u2 e2
  have e4 := heap_setCell_same _ w.heap.size 3 _ 96 u3 e3
  have h1 := h.gt
  have hne : gb ≠ w.heap.size := by omega
  refine ⟨by simpa using e4, ?_, ?_, ?_, ?_, ?_⟩
  · exact (heap_setCell_other _ _ _ _ hne).trans ((heap_setCell_other _ _ _ _ hne).trans ((heap_setCell_other _ _ _ _ hne).trans ((heap_setCell_other _ _ _ _ hne).trans h.box)))
  · exact row_put (row_put (row_put (row_put h.p h.res (by decide)) e1 (by decide)) e2 (by decide)) e3 (by decide)
  · exact row_put (row_put (row_put (row_put h.s h.res (by decide)) e1 (by decide)) e2 (by decide)) e3 (by decide)
  · exact row_put (row_put (row_put (row_put h.k h.res (by decide)) e1 (by decide)) e2 (by decide)) e3 (by decide)
  · exact (((h.below.setCell (p := ⟨w.heap.size, 0, none⟩) (Nat.le_refl _) _).setCell (p := ⟨w.heap.size, 1, none⟩) (Nat.le_refl _) _).setCell (p := ⟨w.heap.size, 2, none⟩) (Nat.le_refl _) _).setCell (p := ⟨w.heap.size, 3, none⟩) (Nat.le_refl _) _
end
/-- the pairs that fields tell: k of them -/
def pk (xs : List (List UInt8)) (k : Nat) : List Pr := (List.range k).map fun j => (bs (xs.getD (2 * j) []), bs (xs.getD (2 * j + 1) []))
theorem pk_len (xs : List (List UInt8)) (k : Nat) : (pk xs k).length = k := by simp [pk]
theorem pk_succ (xs : List (List UInt8)) (k : Nat) : pk xs (k + 1) = pk xs k ++ [(bs (xs.getD (2 * k) []), bs (xs.getD (2 * k + 1) []))] := by simp [pk, List.range_succ]
def lsM (xs : List (List UInt8)) : List ByteArray := xs.map fun t => bs t.tail
def ksM (xs : List (List UInt8)) : List Int := xs.map fun t => ((t.headD 0).toNat : Int)
noncomputable def okNd (lf : Bool) (xs : List (List UInt8)) : Bool := if lf then decide (xs.length % 2 = 0) && (withinB (pk xs (xs.length / 2)).length 1 3 && okR (pk xs (xs.length / 2))) else !(xs.any List.isEmpty) && (withinB xs.length 1 4 && okK (lsM xs) (ksM xs))
def ndM (lf : Bool) (xs : List (List UInt8)) : Nd := if lf then ⟨true, pk xs (xs.length / 2), [], []⟩ else ⟨false, [], lsM xs, ksM xs⟩
def NOPost (lf : Bool) (xs : List (List UInt8)) (w : World) (e : Ending) (w' : World) : Prop := ∃ (q : Nd) (A : Option Addr) (ca : Nat) (B : Option Addr) (cb : Nat) (C : Option Addr) (cc : Nat), e = .returned (.tuple #[q.v A ca B cb C cc, .bool (okNd lf xs)]) ∧ NdOwn w' w.heap.size q A ca B cb C cc ∧ (okNd lf xs = true → q = ndM lf xs) ∧ Below w.heap.size w w'
set_option maxRecDepth 100000 in
set_option maxHeartbeats 4000000 in
theorem nodeOf_leaf (A : Option Addr) (c : Nat) (xs : List (List UInt8)) (w : World) (hx : Rd w w.heap.size A (xs.map sv)) (hl : xs.length ≤ 255) :
    Calls Try.prog 221 #[.bool true, .slice A xs.length c] w (NOPost true xs w) := by
  have H0 : Hid (NB w ((w.alloc (.cells #[.bool false, .slice none 0 0, .slice none 0 0, .slice none 0 0] 96)).alloc (.cells #[.bool true, .slice none 0 0, .slice none 0 0, .slice none 0 0] 96)) (w.heap.size + 1) true (.slice none 0 0) (.slice none 0 0) (.slice none 0 0) (.slice none 0 0) (pk xs 0) (.slice none 0 0) [] (.slice none 0 0) []) := by
    refine ⟨?_, ?_, own_nilR _ _ _ _, own_nilR _ _ _ _, own_nilR _ _ _ _, by repeat (first | exact Below.refl _ _ | assumption | refine Below.drew ?_ | refine below_drewN ?_ _ | refine Below.setCell ?_ (by first | exact Nat.le_refl _ | exact Below.size (by assumption) | (simp; done) | (simp; omega) | omega) _ | refine Below.alloc ?_ (by first | exact Nat.le_refl _ | exact Below.size (by assumption) | (simp; done) | (simp; omega) | omega) _), Nat.lt_succ_self _⟩
    · exact (((Below.refl _ _).alloc (Nat.le_refl _) _ : Below (w.alloc (.cells #[.bool false, .slice none 0 0, .slice none 0 0, .slice none 0 0] 96)).heap.size _ _).block _ (by simp)).trans (heap_alloc_new _ _)
    · have := heap_alloc_new (w.alloc (.cells #[.bool false, .slice none 0 0, .slice none 0 0, .slice none 0 0] 96)) (.cells #[.bool true, .slice none 0 0, .slice none 0 0, .slice none 0 0] 96)
      simpa using this
  have HX := Lib.hid hx
  clear hx
  go_enter Try.func221, Try.ntmps221
  go_wp2_with fail
  go_loopw [7] (fun i wr => ∃ (j k : Nat) (vP : Value), j = 2 * k ∧ j ≤ xs.length ∧ i = .int .i64 j ∧ NB w wr (w.heap.size + 1) true vP (.slice none 0 0) (.slice none 0 0) vP (pk xs k) (.slice none 0 0) [] (.slice none 0 0) []) (fun i _ => xs.length - (intOf i).toNat)
  case atStart => exact ⟨0, 0, .slice none 0 0, rfl, Nat.zero_le _, rfl, H0.out⟩
  case round =>
    obtain ⟨j, k, vP, hjk, hj, rfl, hn⟩ := hrel
    have HN := Lib.hid hn
    have HJK := Lib.hid hjk
    have hk255 : k ≤ 128 := by omega
    clear hn H0 hjk
    have q1 : IntKind.i64.wrap ((j : Int) + 1) = (j : Int) + 1 := IntWalk.i64_in _ (by omega)
    have q2 : ((j : Int) + 1).toNat = j + 1 := by omega
    have q3 : (0 : Int) ≤ (j : Int) + 1 := by omega
    by_cases hlt : j + 1 < xs.length
    · have hlt0 : j < xs.length := by omega
      obtain ⟨ad, rfl, hbl, _⟩ := (HX.out.below HN.out.below).at_ (map_at (f := sv) hlt0)
      have HLC : Hid (∀ W : World, Below w.heap.size w W → W.cell? (ad.add j) = some (sv xs[j]) ∧ W.cell? ⟨ad.block, ad.off + (j + 1), none⟩ = some (sv xs[j + 1])) := fun W hW => by
        obtain ⟨a1, e1, _, h1⟩ := (HX.out.below hW).at_ (map_at (f := sv) hlt0)
        obtain ⟨a2, e2, _, h2⟩ := (HX.out.below hW).at_ (map_at (f := sv) hlt)
        cases e1; cases e2
        exact ⟨h1, by have e : ad.add (j + 1) = ⟨ad.block, ad.off + (j + 1), none⟩ := by simp [Addr.add]
                      rw [← e]; exact h2⟩
      have HXE : Hid (bs (xs.getD (2 * k) []) = bs xs[j] ∧ bs (xs.getD (2 * k + 1) []) = bs xs[j + 1]) := by
        show _ ∧ _
        rw [← HJK.out, List.getD_eq_getElem?_getD, List.getD_eq_getElem?_getD, List.getElem?_eq_getElem hlt0, List.getElem?_eq_getElem hlt]
        exact ⟨rfl, rfl⟩
      generalize xs[j] = x at *
      generalize xs[j + 1] = y at *
      have q4 : (j : Int) + 1 < (xs.length : Int) := by omega
      have q5 : (j : Int) < (xs.length : Int) := by omega
      go_wp2_with fail
      refine wp_region_noPanic ?_
      refine wp_region_held_drew (S := (fun w' => w'.cell? (ad.add j) = some (sv x) ∧ w'.cell? ⟨ad.block, ad.off + (j + 1), none⟩ = some (sv y))) (by kernel_rfl) ?_ (fun hHeld => ?_)
      · (try dsimp only)
        exact HLC.out _ HN.out.drew.below
      have HN := Lib.hid HN.out.drew
      generalize wr.drew = W0 at HN hHeld ⊢
      have c1 := HN.out.cells.2.1
      refine wpAnyH_take (i := 0) (oi := ⟨some 20, _, _, _, _, _⟩) (v := ?_) rfl (by kernel_rfl) (by kernel_rfl) (by kernel_rfl) (fun _ _ _ h => h) (Or.inl ⟨by simp [Region.wanted, yielded, undef], ?_⟩) (by assumption) ?_
      rotate_left
      · ((intro w hSw; (try dsimp only at hSw); go_simp) <;> with_reducible rfl)
      (try simp only [Act.put, List.setIfInBounds_toArray, List.set_cons_zero, List.set_cons_succ])
      refine wpAnyH_take (i := 2) (oi := ⟨some 22, _, _, _, _, _⟩) (v := ?_) rfl (by kernel_rfl) (by kernel_rfl) (by kernel_rfl) (fun _ _ _ h => h) (Or.inl ⟨by simp [Region.wanted, yielded, undef], ?_⟩) (by assumption) ?_
      rotate_left
      · ((intro w hSw; (try dsimp only at hSw); go_simp) <;> with_reducible rfl)
      (try simp only [Act.put, List.setIfInBounds_toArray, List.set_cons_zero, List.set_cons_succ])
      refine wpAnyH_take (i := 3) (oi := ⟨some 23, _, _, _, _, _⟩) (v := ?_) rfl (by kernel_rfl) (by kernel_rfl) (by kernel_rfl) (fun _ _ _ h => h) (Or.inl ⟨by simp [Region.wanted, yielded, undef], ?_⟩) (by assumption) ?_
      rotate_left
      · ((intro w hSw; (try dsimp only at hSw); go_simp) <;> with_reducible rfl)
      (try simp only [Act.put, List.setIfInBounds_toArray, List.set_cons_zero, List.set_cons_succ])
      refine wpAnyH_take (i := 4) (oi := ⟨some 24, _, _, _, _, _⟩) (v := ?_) rfl (by kernel_rfl) (by kernel_rfl) (by kernel_rfl) (fun _ _ _ h => h) (Or.inl ⟨by simp [Region.wanted, yielded, undef], ?_⟩) (by assumption) ?_
      rotate_left
      · ((intro w hSw; (try dsimp only at hSw); go_simp) <;> with_reducible rfl)
      (try simp only [Act.put, List.setIfInBounds_toArray, List.set_cons_zero, List.set_cons_succ])
      refine wpAnyH_take (i := 5) (oi := ⟨some 25, _, _, _, _, _⟩) (v := ?_) rfl (by kernel_rfl) (by kernel_rfl) (by kernel_rfl) (fun _ _ _ h => h) (Or.inl ⟨by simp [Region.wanted, yielded, undef], ?_⟩) (by assumption) ?_
      rotate_left
      · ((intro w hSw; (try dsimp only at hSw); go_simp) <;> with_reducible rfl)
      (try simp only [Act.put, List.setIfInBounds_toArray, List.set_cons_zero, List.set_cons_succ])
      refine wpAnyH_take (i := 6) (oi := ⟨some 26, _, _, _, _, _⟩) (v := ?_) rfl (by kernel_rfl) (by kernel_rfl) (by kernel_rfl) (fun _ _ _ h => h) (Or.inl ⟨by simp [Region.wanted, yielded, undef], ?_⟩) (by assumption) ?_
      rotate_left
      · ((intro w hSw; (try dsimp only at hSw); go_simp) <;> with_reducible rfl)
      (try simp only [Act.put, List.setIfInBounds_toArray, List.set_cons_zero, List.set_cons_succ])
      refine wpAnyH_take (i := 7) (oi := ⟨some 27, _, _, _, _, _⟩) (v := ?_) rfl (by kernel_rfl) (by kernel_rfl) (by kernel_rfl) (fun _ _ _ h => h) (Or.inl ⟨by simp [Region.wanted, yielded, undef], ?_⟩) (by assumption) ?_
      rotate_left
      · ((intro w hSw; (try dsimp only at hSw); go_simp) <;> with_reducible rfl)
      (try simp only [Act.put, List.setIfInBounds_toArray, List.set_cons_zero, List.set_cons_succ])
      refine wpAnyH_take (i := 8) (oi := ⟨some 28, _, _, _, _, _⟩) (v := ?_) rfl (by kernel_rfl) (by kernel_rfl) (by kernel_rfl) (fun _ _ _ h => h) (Or.inl ⟨by simp [Region.wanted, yielded, undef], ?_⟩) (by assumption) ?_
      rotate_left
      · ((intro w hSw; (try dsimp only at hSw); go_simp) <;> with_reducible rfl)
      (try simp only [Act.put, List.setIfInBounds_toArray, List.set_cons_zero, List.set_cons_succ])
      refine wpAnyH_take (i := 9) (oi := ⟨some 29, _, _, _, _, _⟩) (v := ?_) rfl (by kernel_rfl) (by kernel_rfl) (by kernel_rfl) (fun _ _ _ h => h) (Or.inl ⟨by simp [Region.wanted, yielded, undef], ?_⟩) (by assumption) ?_
      rotate_left
      · ((intro w hSw; (try dsimp only at hSw); go_simp) <;> with_reducible rfl)
      (try simp only [Act.put, List.setIfInBounds_toArray, List.set_cons_zero, List.set_cons_succ])
      refine wpAnyH_take (i := 10) (oi := ⟨some 30, _, _, _, _, _⟩) (v := ?_) rfl (by kernel_rfl) (by kernel_rfl) (by kernel_rfl) (fun _ _ _ h => h) (Or.inl ⟨by simp [Region.wanted, yielded, undef], ?_⟩) (by assumption) ?_
      rotate_left
      · ((intro w hSw; (try dsimp only at hSw); go_simp) <;> with_reducible rfl)
      (try simp only [Act.put, List.setIfInBounds_toArray, List.set_cons_zero, List.set_cons_succ])
      refine wpAnyH_take (i := 11) (oi := ⟨some 31, _, _, _, _, _⟩) (v := ?_) rfl (by kernel_rfl) (by kernel_rfl) (by kernel_rfl) (fun _ _ _ h => h) (Or.inl ⟨by simp [Region.wanted, yielded, undef], ?_⟩) (by assumption) ?_
      rotate_left
      · ((intro w hSw; (try dsimp only at hSw); go_simp) <;> with_reducible rfl)
      (try simp only [Act.put, List.setIfInBounds_toArray, List.set_cons_zero, List.set_cons_succ])
      refine wpAnyH_ready (rs := [1, 12]) (by kernel_rfl) (by simp) ?_
      refine (AllReadyH.cons (o := ⟨some 21, _, _, _, _, _⟩) rfl (fun K hK => ?_) (AllReadyH.cons (o := ⟨some 32, _, _, _, _, _⟩) rfl (fun K hK => ?_) AllReadyH.nil))
      · go_simp
        refine hK.out _ _ ?_ (fun hHeld => ?_)
        · (try dsimp only)
          exact HLC.out _ HN.out.below
        clear hK K
        (try simp only [Act.put, List.setIfInBounds_toArray, List.set_cons_zero, List.set_cons_succ])
        refine wpAnyH_ready (rs := [12]) (by kernel_rfl) (by simp) ?_
        refine (AllReadyH.cons (o := ⟨some 32, _, _, _, _, _⟩) rfl (fun K hK => ?_) AllReadyH.nil)
        go_simp
        refine hK.out _ _ ?_ (fun hHeld => ?_)
        · (try dsimp only)
          exact HLC.out _ (HN.out.old ((Below.refl _ _).alloc (Nat.le_refl _) _)).below
        clear hK K
        (try simp only [Act.put, List.setIfInBounds_toArray, List.set_cons_zero, List.set_cons_succ])
        obtain ⟨W1, hW1⟩ : ∃ W : World, W = W0.alloc (.cells #[.string (bs x), .string (bs y)] 82) := ⟨_, rfl⟩
        rw [← hW1]
        have HN : Hid (NB w W1 (w.heap.size + 1) true vP (.slice none 0 0) (.slice none 0 0) vP (pk xs k) (.slice none 0 0) [] (.slice none 0 0) []) := by rw [hW1]; exact HN.out.old ((Below.refl _ _).alloc (Nat.le_refl _) _)
        have HF : Hid (W1.heap[W0.heap.size]? = some (.cells #[.string (bs x), .string (bs y)] 82 (0, 0))) := by rw [hW1]; exact heap_alloc_new _ _
        clear hW1
        have c1 := HN.out.cells.2.1
        refine wpAnyH_ready (rs := [13]) (by kernel_rfl) (by simp) ?_
        refine (AllReadyH.cons (o := ⟨some 33, _, _, _, _, _⟩) rfl (fun K hK => ?_) AllReadyH.nil)
        refine step_push_one elPair rfl _ _ rfl w.heap.size vP (pk xs k).length (flat encP (pk xs k)) rfl HN.out.p W0.heap.size [.string (bs x), .string (bs y)] HF.out rfl rfl (by simp [Value.oneCell']) (by rw [pk_len]; simp only [maxLen]; omega) (by rw [pk_len]; omega) (Nat.le_of_lt HN.out.rl) ?_
        intro v6 w6 hp6
        obtain ⟨A6, c6, rfl, _⟩ := own_form hp6.1
        refine hK.out _ _ ?_ (fun hHeld => ?_)
        · (try dsimp only)
          exact HLC.out _ (HN.out.pushP (p := (bs x, bs y)) hp6).below
        clear hK K
        (try simp only [Act.put, List.setIfInBounds_toArray, List.set_cons_zero, List.set_cons_succ])
        have HN := Lib.hid (HN.out.pushP (p := (bs x, bs y)) hp6)
        clear hp6
        have c1 := HN.out.cells.2.1
        have f1 := HN.out.froz 1
        refine wpAnyH_take (i := 14) (oi := ⟨some 34, _, _, _, _, _⟩) (v := ?_) rfl (by kernel_rfl) (by kernel_rfl) (by kernel_rfl) (fun _ _ _ h => h) (Or.inl ⟨by simp [Region.wanted, yielded, undef], ?_⟩) (by assumption) ?_
        rotate_left
        · ((intro w hSw; (try dsimp only at hSw); go_simp) <;> with_reducible rfl)
        (try simp only [Act.put, List.setIfInBounds_toArray, List.set_cons_zero, List.set_cons_succ])
        refine wpAnyH_ready (rs := [15]) (by kernel_rfl) (by simp) ?_
        refine (AllReadyH.cons rfl (fun K hK => ?_) AllReadyH.nil)
        go_simp
        refine hK.out _ _ ?_ (fun hHeld => ?_)
        · (try dsimp only)
          exact HLC.out _ (HN.out.put 1 (.slice A6 ((pk xs k).length + 1) c6) (bP' := (.slice A6 ((pk xs k).length + 1) c6)) (bL' := .slice none 0 0) (bK' := .slice none 0 0) rfl).below
        clear hK K
        (try simp only [Act.put, List.setIfInBounds_toArray, List.set_cons_zero, List.set_cons_succ])
        have HN := Lib.hid (HN.out.put 1 (.slice A6 ((pk xs k).length + 1) c6) (bP' := (.slice A6 ((pk xs k).length + 1) c6)) (bL' := .slice none 0 0) (bK' := .slice none 0 0) rfl)
        refine wpAnyH_done (by kernel_rfl) ?_ _
        refine NoPanic.normal ?_
        clear c1 f1
        go_wp2_with fail
        go_roundw
        case rel =>
          refine ⟨j + 2, k + 1, (.slice A6 ((pk xs k).length + 1) c6), by have := HJK.out; omega, by omega, by go_num, ?_⟩
          rw [pk_succ, HXE.out.1, HXE.out.2]
          exact HN.out
        case measure => simp [intOf]; omega
      · go_simp
        refine hK.out _ _ ?_ (fun hHeld => ?_)
        · (try dsimp only)
          exact HLC.out _ (HN.out.old ((Below.refl _ _).alloc (Nat.le_refl _) _)).below
        clear hK K
        (try simp only [Act.put, List.setIfInBounds_toArray, List.set_cons_zero, List.set_cons_succ])
        obtain ⟨W1, hW1⟩ : ∃ W : World, W = W0.alloc (.cells #[.string (bs x), .string (bs y)] 82) := ⟨_, rfl⟩
        rw [← hW1]
        have HN : Hid (NB w W1 (w.heap.size + 1) true vP (.slice none 0 0) (.slice none 0 0) vP (pk xs k) (.slice none 0 0) [] (.slice none 0 0) []) := by rw [hW1]; exact HN.out.old ((Below.refl _ _).alloc (Nat.le_refl _) _)
        have HF : Hid (W1.heap[W0.heap.size]? = some (.cells #[.string (bs x), .string (bs y)] 82 (0, 0))) := by rw [hW1]; exact heap_alloc_new _ _
        clear hW1
        have c1 := HN.out.cells.2.1
        refine wpAnyH_ready (rs := [1]) (by kernel_rfl) (by simp) ?_
        refine (AllReadyH.cons (o := ⟨some 21, _, _, _, _, _⟩) rfl (fun K hK => ?_) AllReadyH.nil)
        go_simp
        refine hK.out _ _ ?_ (fun hHeld => ?_)
        · (try dsimp only)
          exact HLC.out _ HN.out.below
        clear hK K
        (try simp only [Act.put, List.setIfInBounds_toArray, List.set_cons_zero, List.set_cons_succ])
        refine wpAnyH_ready (rs := [13]) (by kernel_rfl) (by simp) ?_
        refine (AllReadyH.cons (o := ⟨some 33, _, _, _, _, _⟩) rfl (fun K hK => ?_) AllReadyH.nil)
        refine step_push_one elPair rfl _ _ rfl w.heap.size vP (pk xs k).length (flat encP (pk xs k)) rfl HN.out.p W0.heap.size [.string (bs x), .string (bs y)] HF.out rfl rfl (by simp [Value.oneCell']) (by rw [pk_len]; simp only [maxLen]; omega) (by rw [pk_len]; omega) (Nat.le_of_lt HN.out.rl) ?_
        intro v6 w6 hp6
        obtain ⟨A6, c6, rfl, _⟩ := own_form hp6.1
        refine hK.out _ _ ?_ (fun hHeld => ?_)
        · (try dsimp only)
          exact HLC.out _ (HN.out.pushP (p := (bs x, bs y)) hp6).below
        clear hK K
        (try simp only [Act.put, List.setIfInBounds_toArray, List.set_cons_zero, List.set_cons_succ])
        have HN := Lib.hid (HN.out.pushP (p := (bs x, bs y)) hp6)
        clear hp6
        have c1 := HN.out.cells.2.1
        have f1 := HN.out.froz 1
        refine wpAnyH_take (i := 14) (oi := ⟨some 34, _, _, _, _, _⟩) (v := ?_) rfl (by kernel_rfl) (by kernel_rfl) (by kernel_rfl) (fun _ _ _ h => h) (Or.inl ⟨by simp [Region.wanted, yielded, undef], ?_⟩) (by assumption) ?_
        rotate_left
        · ((intro w hSw; (try dsimp only at hSw); go_simp) <;> with_reducible rfl)
        (try simp only [Act.put, List.setIfInBounds_toArray, List.set_cons_zero, List.set_cons_succ])
        refine wpAnyH_ready (rs := [15]) (by kernel_rfl) (by simp) ?_
        refine (AllReadyH.cons rfl (fun K hK => ?_) AllReadyH.nil)
        go_simp
        refine hK.out _ _ ?_ (fun hHeld => ?_)
        · (try dsimp only)
          exact HLC.out _ (HN.out.put 1 (.slice A6 ((pk xs k).length + 1) c6) (bP' := (.slice A6 ((pk xs k).length + 1) c6)) (bL' := .slice none 0 0) (bK' := .slice none 0 0) rfl).below
        clear hK K
        (try simp only [Act.put, List.setIfInBounds_toArray, List.set_cons_zero, List.set_cons_succ])
        have HN := Lib.hid (HN.out.put 1 (.slice A6 ((pk xs k).length + 1) c6) (bP' := (.slice A6 ((pk xs k).length + 1) c6)) (bL' := .slice none 0 0) (bK' := .slice none 0 0) rfl)
        refine wpAnyH_done (by kernel_rfl) ?_ _
        refine NoPanic.normal ?_
        clear c1 f1
        go_wp2_with fail
        go_roundw
        case rel =>
          refine ⟨j + 2, k + 1, (.slice A6 ((pk xs k).length + 1) c6), by have := HJK.out; omega, by omega, by go_num, ?_⟩
          rw [pk_succ, HXE.out.1, HXE.out.2]
          exact HN.out
        case measure => simp [intOf]; omega
    · have HK2 : Hid (k = xs.length / 2) := by show k = _; have := HJK.out; omega
      obtain ⟨A1, n1, rfl, _⟩ := own_form HN.out.p
      by_cases hev : xs.length % 2 = 0
      · have q8 : ((xs.length : Int) % 2 == 0) = true := by rw [beq_iff_eq]; omega
        have q9 : ((xs.length : Int).tmod 2 == 0) = true := by rw [beq_iff_eq, Int.tmod_eq_emod_of_nonneg (by omega)]; omega
        have HOK : Hid (okNd true xs = (withinB (pk xs k).length 1 3 && okR (pk xs k))) := by show _ = _; unfold okNd; rw [if_pos rfl, decide_eq_true hev, ← HK2.out]; rfl
        have HQM : Hid (ndM true xs = ⟨true, pk xs k, [], []⟩) := by show _ = _; unfold ndM; rw [if_pos rfl, ← HK2.out]
        obtain ⟨b, hb⟩ : ∃ b, (withinB (pk xs k).length 1 3 && okR (pk xs k)) = b := ⟨_, rfl⟩
        rw [hb] at HOK
        have HB := Lib.hid hb
        clear hb
        go_wp2_with fail
        refine wp_region_noPanic ?_
        refine wp_region_held_drew (S := (fun w' => w'.cell? ⟨w.heap.size + 1, 0, none⟩ = some (.bool true) ∧ w'.cell? ⟨w.heap.size + 1, 1, none⟩ = some (.slice A1 (pk xs k).length n1) ∧ w'.cell? ⟨w.heap.size + 1, 2, none⟩ = some (.slice none 0 0) ∧ w'.cell? ⟨w.heap.size + 1, 3, none⟩ = some (.slice none 0 0))) (by kernel_rfl) ?_ (fun hHeld => ?_)
        · (try dsimp only)
          exact nd_cells HN.out.drew.box
        have HN := Lib.hid HN.out.drew
        generalize wr.drew = W0 at HN hHeld ⊢
        refine wpAnyH_take (i := 0) (oi := ⟨some 35, _, _, _, _, _⟩) (v := ?_) rfl (by kernel_rfl) (by kernel_rfl) (by kernel_rfl) (fun _ _ _ h => h) (Or.inl ⟨by simp [Region.wanted, yielded, undef], ?_⟩) (by assumption) ?_
        rotate_left
        · ((intro w hSw; (try dsimp only at hSw); go_simp) <;> with_reducible rfl)
        (try simp only [Act.put, List.setIfInBounds_toArray, List.set_cons_zero, List.set_cons_succ])
        refine wpAnyH_take (i := 1) (oi := ⟨some 36, _, _, _, _, _⟩) (v := ?_) rfl (by kernel_rfl) (by kernel_rfl) (by kernel_rfl) (fun _ _ _ h => h) (Or.inl ⟨by simp [Region.wanted, yielded, undef], ?_⟩) (by assumption) ?_
        rotate_left
        · ((intro w hSw; (try dsimp only at hSw); go_simp) <;> with_reducible rfl)
        (try simp only [Act.put, List.setIfInBounds_toArray, List.set_cons_zero, List.set_cons_succ])
        refine wpAnyH_take (i := 2) (oi := ⟨some 37, _, _, _, _, _⟩) (v := ?_) rfl (by kernel_rfl) (by kernel_rfl) (by kernel_rfl) (fun _ _ _ h => h) (Or.inl ⟨by simp [Region.wanted, yielded, undef], ?_⟩) (by assumption) ?_
        rotate_left
        · ((intro w hSw; (try dsimp only at hSw); go_simp) <;> with_reducible rfl)
        (try simp only [Act.put, List.setIfInBounds_toArray, List.set_cons_zero, List.set_cons_succ])
        refine wpAnyH_take (i := 3) (oi := ⟨some 38, _, _, _, _, _⟩) (v := ?_) rfl (by kernel_rfl) (by kernel_rfl) (by kernel_rfl) (fun _ _ _ h => h) (Or.inl ⟨by simp [Region.wanted, yielded, undef], ?_⟩) (by assumption) ?_
        rotate_left
        · ((intro w hSw; (try dsimp only at hSw); go_simp) <;> with_reducible rfl)
        (try simp only [Act.put, List.setIfInBounds_toArray, List.set_cons_zero, List.set_cons_succ])
        refine wpAnyH_take (i := 4) (oi := ⟨some 39, _, _, _, _, _⟩) (v := ?_) rfl (by kernel_rfl) (by kernel_rfl) (by kernel_rfl) (fun _ _ _ h => h) (Or.inl ⟨by simp [Region.wanted, yielded, undef], ?_⟩) (by assumption) ?_
        rotate_left
        · ((intro w hSw; (try dsimp only at hSw); go_simp) <;> with_reducible rfl)
        (try simp only [Act.put, List.setIfInBounds_toArray, List.set_cons_zero, List.set_cons_succ])
        refine wpAnyH_take (i := 5) (oi := ⟨some 40, _, _, _, _, _⟩) (v := ?_) rfl (by kernel_rfl) (by kernel_rfl) (by kernel_rfl) (fun _ _ _ h => h) (Or.inl ⟨by simp [Region.wanted, yielded, undef], ?_⟩) (by assumption) ?_
        rotate_left
        · ((intro w hSw; (try dsimp only at hSw); go_simp) <;> with_reducible rfl)
        (try simp only [Act.put, List.setIfInBounds_toArray, List.set_cons_zero, List.set_cons_succ])
        refine wpAnyH_take (i := 6) (oi := ⟨some 41, _, _, _, _, _⟩) (v := ?_) rfl (by kernel_rfl) (by kernel_rfl) (by kernel_rfl) (fun _ _ _ h => h) (Or.inl ⟨by simp [Region.wanted, yielded, undef], ?_⟩) (by assumption) ?_
        rotate_left
        · ((intro w hSw; (try dsimp only at hSw); go_simp) <;> with_reducible rfl)
        (try simp only [Act.put, List.setIfInBounds_toArray, List.set_cons_zero, List.set_cons_succ])
        refine wpAnyH_ready (rs := [7]) (by kernel_rfl) (by simp) ?_
        refine (AllReadyH.cons (o := ⟨some 42, _, _, _, _, _⟩) rfl (fun K hK => ?_) AllReadyH.nil)
        go_simp
        refine (nodeOK_leaf A1 none none n1 0 0 (pk xs k) W0 (Rd.own HN.out.p) (by rw [pk_len]; omega)).mono ?_
        rw [show (withinB (pk xs k).length 1 3 && okR (pk xs k)) = b from HB.out]
        rintro e W7 ⟨rfl, hb7⟩
        go_wp2_with fail
        refine hK.out _ _ ?_ (fun hHeld => ?_)
        · (try dsimp only)
          exact nd_cells (HN.out.old hb7).box
        clear hK K
        (try simp only [Act.put, List.setIfInBounds_toArray, List.set_cons_zero, List.set_cons_succ])
        have HN := Lib.hid (HN.out.old hb7)
        clear hb7
        refine wpAnyH_take (i := 8) (oi := ⟨some 43, _, _, _, _, _⟩) (v := ?_) rfl (by kernel_rfl) (by kernel_rfl) (by kernel_rfl) (fun _ _ _ h => h) (Or.inl ⟨by simp [Region.wanted, yielded, undef], ?_⟩) (by assumption) ?_
        rotate_left
        · ((intro w hSw; (try dsimp only at hSw); go_simp) <;> with_reducible rfl)
        (try simp only [Act.put, List.setIfInBounds_toArray, List.set_cons_zero, List.set_cons_succ])
        refine wpAnyH_ready (rs := [9]) (by kernel_rfl) (by simp) ?_
        refine (AllReadyH.cons rfl (fun K hK => ?_) AllReadyH.nil)
        obtain ⟨r0, r1, r2, r3, rf⟩ := HN.out.resCells
        have rf0 := rf 0
        have rf1 := rf 1
        have rf2 := rf 2
        have rf3 := rf 3
        go_simp
        clear r0 r1 r2 r3 rf rf0 rf1 rf2 rf3
        refine hK.out _ _ ?_ (fun hHeld => ?_)
        · (try dsimp only)
          exact nd_cells (HN.out.res4 (.bool true) (.slice A1 (pk xs k).length n1) (.slice none 0 0) (.slice none 0 0)).2.1
        clear hK K
        (try simp only [Act.put, List.setIfInBounds_toArray, List.set_cons_zero, List.set_cons_succ])
        have HR := Lib.hid (HN.out.res4 (.bool true) (.slice A1 (pk xs k).length n1) (.slice none 0 0) (.slice none 0 0))
        generalize ((((W7.setCell ⟨w.heap.size, 0, none⟩ (.bool true)).setCell ⟨w.heap.size, 1, none⟩ (.slice A1 (pk xs k).length n1)).setCell ⟨w.heap.size, 2, none⟩ (.slice none 0 0)).setCell ⟨w.heap.size, 3, none⟩ (.slice none 0 0)) = W5 at HR hHeld ⊢
        refine wpAnyH_take (i := 10) (oi := ⟨some 5, _, _, _, _, _⟩) (v := ?_) rfl (by kernel_rfl) (by kernel_rfl) (by kernel_rfl) (fun _ _ _ h => h) (Or.inl ⟨by simp [Region.wanted, yielded, undef], ?_⟩) (by assumption) ?_
        rotate_left
        · ((intro w hSw; (try dsimp only at hSw); go_simp) <;> with_reducible rfl)
        (try simp only [Act.put, List.setIfInBounds_toArray, List.set_cons_zero, List.set_cons_succ])
        refine wpAnyH_done (by kernel_rfl) ?_ _
        refine NoPanic.normal ?_
        go_wp2_with fail
        obtain ⟨h1, _, hp, hs, hk, hbl⟩ := HR.out
        obtain ⟨z0, z1, z2, z3⟩ := nd_cells h1
        refine bodyPost_ret (v := .tuple #[ndV true A1 (pk xs k).length n1 none 0 0 none 0 0, .bool b]) (by simp [results, Try.results221, go_sem, z0, z1, z2, z3]) rfl ?_
        refine ⟨⟨true, pk xs k, [], []⟩, A1, n1, none, 0, none, 0, ?_, ⟨hp, hs, hk⟩, ?_, hbl⟩
        · rw [HOK.out]; rfl
        · intro h
          exact HQM.out.symm
      · have q8 : ((xs.length : Int) % 2 == 0) = false := by rw [beq_eq_false_iff_ne]; omega
        have q9 : ((xs.length : Int).tmod 2 == 0) = false := by rw [beq_eq_false_iff_ne, Ne, Int.tmod_eq_emod_of_nonneg (by omega)]; omega
        have HOK : Hid (okNd true xs = false) := by show _ = _; unfold okNd; rw [if_pos rfl, decide_eq_false hev]; rfl
        go_wp2_with fail
        refine wp_region_noPanic ?_
        refine wp_region_held_drew (S := (fun w' => w'.cell? ⟨w.heap.size + 1, 0, none⟩ = some (.bool true) ∧ w'.cell? ⟨w.heap.size + 1, 1, none⟩ = some (.slice A1 (pk xs k).length n1) ∧ w'.cell? ⟨w.heap.size + 1, 2, none⟩ = some (.slice none 0 0) ∧ w'.cell? ⟨w.heap.size + 1, 3, none⟩ = some (.slice none 0 0))) (by kernel_rfl) ?_ (fun hHeld => ?_)
        · (try dsimp only)
          exact nd_cells HN.out.drew.box
        have HN := Lib.hid HN.out.drew
        generalize wr.drew = W0 at HN hHeld ⊢
        refine wpAnyH_take (i := 0) (oi := ⟨some 35, _, _, _, _, _⟩) (v := ?_) rfl (by kernel_rfl) (by kernel_rfl) (by kernel_rfl) (fun _ _ _ h => h) (Or.inl ⟨by simp [Region.wanted, yielded, undef], ?_⟩) (by assumption) ?_
        rotate_left
        · ((intro w hSw; (try dsimp only at hSw); go_simp) <;> with_reducible rfl)
        (try simp only [Act.put, List.setIfInBounds_toArray, List.set_cons_zero, List.set_cons_succ])
        refine wpAnyH_take (i := 1) (oi := ⟨some 36, _, _, _, _, _⟩) (v := ?_) rfl (by kernel_rfl) (by kernel_rfl) (by kernel_rfl) (fun _ _ _ h => h) (Or.inl ⟨by simp [Region.wanted, yielded, undef], ?_⟩) (by assumption) ?_
        rotate_left
        · ((intro w hSw; (try dsimp only at hSw); go_simp) <;> with_reducible rfl)
        (try simp only [Act.put, List.setIfInBounds_toArray, List.set_cons_zero, List.set_cons_succ])
        refine wpAnyH_take (i := 2) (oi := ⟨some 37, _, _, _, _, _⟩) (v := ?_) rfl (by kernel_rfl) (by kernel_rfl) (by kernel_rfl) (fun _ _ _ h => h) (Or.inl ⟨by simp [Region.wanted, yielded, undef], ?_⟩) (by assumption) ?_
        rotate_left
        · ((intro w hSw; (try dsimp only at hSw); go_simp) <;> with_reducible rfl)
        (try simp only [Act.put, List.setIfInBounds_toArray, List.set_cons_zero, List.set_cons_succ])
        refine wpAnyH_take (i := 3) (oi := ⟨some 38, _, _, _, _, _⟩) (v := ?_) rfl (by kernel_rfl) (by kernel_rfl) (by kernel_rfl) (fun _ _ _ h => h) (Or.inl ⟨by simp [Region.wanted, yielded, undef], ?_⟩) (by assumption) ?_
        rotate_left
        · ((intro w hSw; (try dsimp only at hSw); go_simp) <;> with_reducible rfl)
        (try simp only [Act.put, List.setIfInBounds_toArray, List.set_cons_zero, List.set_cons_succ])
        refine wpAnyH_take (i := 4) (oi := ⟨some 39, _, _, _, _, _⟩) (v := ?_) rfl (by kernel_rfl) (by kernel_rfl) (by kernel_rfl) (fun _ _ _ h => h) (Or.inl ⟨by simp [Region.wanted, yielded, undef], ?_⟩) (by assumption) ?_
        rotate_left
        · ((intro w hSw; (try dsimp only at hSw); go_simp) <;> with_reducible rfl)
        (try simp only [Act.put, List.setIfInBounds_toArray, List.set_cons_zero, List.set_cons_succ])
        refine wpAnyH_take (i := 5) (oi := ⟨some 40, _, _, _, _, _⟩) (v := ?_) rfl (by kernel_rfl) (by kernel_rfl) (by kernel_rfl) (fun _ _ _ h => h) (Or.inl ⟨by simp [Region.wanted, yielded, undef], ?_⟩) (by assumption) ?_
        rotate_left
        · ((intro w hSw; (try dsimp only at hSw); go_simp) <;> with_reducible rfl)
        (try simp only [Act.put, List.setIfInBounds_toArray, List.set_cons_zero, List.set_cons_succ])
        refine wpAnyH_take (i := 6) (oi := ⟨some 41, _, _, _, _, _⟩) (v := undef) rfl (by kernel_rfl) (by kernel_rfl) (by kernel_rfl) (fun _ _ _ h => h) (Or.inr ⟨by simp [Region.wanted, yielded, undef], rfl⟩) (by assumption) ?_
        (try simp only [Act.put, List.setIfInBounds_toArray, List.set_cons_zero, List.set_cons_succ])
        refine wpAnyH_take (i := 7) (oi := ⟨some 42, _, _, _, _, _⟩) (v := undef) rfl (by kernel_rfl) (by kernel_rfl) (by kernel_rfl) (fun _ _ _ h => h) (Or.inr ⟨by simp [Region.wanted, yielded, undef], rfl⟩) (by assumption) ?_
        (try simp only [Act.put, List.setIfInBounds_toArray, List.set_cons_zero, List.set_cons_succ])
        refine wpAnyH_take (i := 8) (oi := ⟨some 43, _, _, _, _, _⟩) (v := ?_) rfl (by kernel_rfl) (by kernel_rfl) (by kernel_rfl) (fun _ _ _ h => h) (Or.inl ⟨by simp [Region.wanted, yielded, undef], ?_⟩) (by assumption) ?_
        rotate_left
        · ((intro w hSw; (try dsimp only at hSw); go_simp) <;> with_reducible rfl)
        (try simp only [Act.put, List.setIfInBounds_toArray, List.set_cons_zero, List.set_cons_succ])
        refine wpAnyH_ready (rs := [9]) (by kernel_rfl) (by simp) ?_
        refine (AllReadyH.cons rfl (fun K hK => ?_) AllReadyH.nil)
        obtain ⟨r0, r1, r2, r3, rf⟩ := HN.out.resCells
        have rf0 := rf 0
        have rf1 := rf 1
        have rf2 := rf 2
        have rf3 := rf 3
        go_simp
        clear r0 r1 r2 r3 rf rf0 rf1 rf2 rf3
        refine hK.out _ _ ?_ (fun hHeld => ?_)
        · (try dsimp only)
          exact nd_cells (HN.out.res4 (.bool true) (.slice A1 (pk xs k).length n1) (.slice none 0 0) (.slice none 0 0)).2.1
        clear hK K
        (try simp only [Act.put, List.setIfInBounds_toArray, List.set_cons_zero, List.set_cons_succ])
        have HR := Lib.hid (HN.out.res4 (.bool true) (.slice A1 (pk xs k).length n1) (.slice none 0 0) (.slice none 0 0))
        generalize ((((W0.setCell ⟨w.heap.size, 0, none⟩ (.bool true)).setCell ⟨w.heap.size, 1, none⟩ (.slice A1 (pk xs k).length n1)).setCell ⟨w.heap.size, 2, none⟩ (.slice none 0 0)).setCell ⟨w.heap.size, 3, none⟩ (.slice none 0 0)) = W5 at HR hHeld ⊢
        refine wpAnyH_take (i := 10) (oi := ⟨some 5, _, _, _, _, _⟩) (v := ?_) rfl (by kernel_rfl) (by kernel_rfl) (by kernel_rfl) (fun _ _ _ h => h) (Or.inl ⟨by simp [Region.wanted, yielded, undef], ?_⟩) (by assumption) ?_
        rotate_left
        · ((intro w hSw; (try dsimp only at hSw); go_simp) <;> with_reducible rfl)
        (try simp only [Act.put, List.setIfInBounds_toArray, List.set_cons_zero, List.set_cons_succ])
        refine wpAnyH_done (by kernel_rfl) ?_ _
        refine NoPanic.normal ?_
        go_wp2_with fail
        obtain ⟨h1, _, hp, hs, hk, hbl⟩ := HR.out
        obtain ⟨z0, z1, z2, z3⟩ := nd_cells h1
        refine bodyPost_ret (v := .tuple #[ndV true A1 (pk xs k).length n1 none 0 0 none 0 0, .bool false]) (by simp [results, Try.results221, go_sem, z0, z1, z2, z3]) rfl ?_
        refine ⟨⟨true, pk xs k, [], []⟩, A1, n1, none, 0, none, 0, ?_, ⟨hp, hs, hk⟩, ?_, hbl⟩
        · rw [HOK.out]; rfl
        · intro h
          rw [HOK.out] at h; cases h
end Go.Proofs.Ytlfnpnkpjdmonaa
