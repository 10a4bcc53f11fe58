import Derived.Test.YtlfnpnkpjdmonaaDoorMsg3
set_option linter.unusedVariables false
set_option linter.unusedSimpArgs false
namespace Go.Proofs.YtlfnpnkpjdmonaaDoor
open Go.RowKit

/-! ### the reference's parser -/
structure MG (w wr : World) (g : Nat) (v : Value) (fs : List Pr) : Prop where
  res : wr.heap[w.heap.size]? = some (.cells #[.slice none 0 0, .string ⟨#[]⟩] 28 (0, 0))
  box : wr.heap[g]? = some (.cells #[v, .string ⟨#[]⟩] 28 (0, 0))
  own : wr.ownsRow (w.heap.size + 1) 49 2 v fs.length (flat encP fs)
  below : Below w.heap.size w wr
  gt : w.heap.size < g
theorem MG.lt {w wr : World} {g : Nat} {v : Value} {fs : List Pr} (h : MG w wr g v fs) : g < wr.heap.size := (Array.getElem?_eq_some_iff.1 h.box).1
theorem MG.ne {w wr : World} {g : Nat} {v : Value} {fs : List Pr} (h : MG w wr g v fs) : v.ownBlock ≠ some g := own_ne_blk h.own h.box (by decide)
theorem MG.old {w wr w' : World} {g : Nat} {v : Value} {fs : List Pr} (h : MG w wr g v fs) (hb : Below wr.heap.size wr w') : MG w w' g v fs := by
  have := h.lt
  have := h.gt
  exact ⟨(hb.block _ (by omega)).trans h.res, (hb.block _ (by omega)).trans h.box, own_below h.own hb, below_after h.below hb, h.gt⟩
theorem MG.cells {w wr : World} {g : Nat} {v : Value} {fs : List Pr} (h : MG w wr g v fs) : wr.cell? ⟨w.heap.size, 0, none⟩ = some (.slice none 0 0) ∧ wr.cell? ⟨w.heap.size, 1, none⟩ = some (.string ⟨#[]⟩) ∧ wr.cell? ⟨g, 0, none⟩ = some v ∧ wr.cell? ⟨g, 1, none⟩ = some (.string ⟨#[]⟩) ∧ (∀ i, wr.frozen? ⟨w.heap.size, i, none⟩ = false) ∧ ∀ i, wr.frozen? ⟨g, i, none⟩ = false :=
  ⟨by rw [cell_of_row wr _ 0 _ _ _ h.res]; rfl, by rw [cell_of_row wr _ 1 _ _ _ h.res]; rfl, by rw [cell_of_row wr _ 0 _ _ _ h.box]; rfl, by rw [cell_of_row wr _ 1 _ _ _ h.box]; rfl, fun i => Lib.frozen_of_heap h.res i, fun i => Lib.frozen_of_heap h.box i⟩
theorem MG.out {w wr : World} {g : Nat} {v : Value} {fs : List Pr} (h : MG w wr g v fs) (u b : Value) :
    let W := (wr.setCell ⟨w.heap.size, 0, none⟩ u).setCell ⟨w.heap.size, 1, none⟩ b
    W.cell? ⟨w.heap.size, 0, none⟩ = some u ∧ W.cell? ⟨w.heap.size, 1, none⟩ = some b ∧ W.ownsRow w.heap.size 49 2 v fs.length (flat encP fs) ∧ Below w.heap.size w W := by
  intro W
  have e1 := heap_setCell_same wr w.heap.size 0 _ _ u h.res
  have e2 : W.heap[w.heap.size]? = some (.cells #[u, b] 28 (0, 0)) := by
    have := heap_setCell_same _ w.heap.size 1 _ _ b e1
    simpa using this
  refine ⟨by rw [cell_of_row W _ 0 _ _ _ e2]; rfl, by rw [cell_of_row W _ 1 _ _ _ e2]; rfl, ?_, ?_⟩
  · exact own_mono (ownSet (ownSet h.own (by omega) 0 u) (by omega) 1 b) (by omega)
  · exact (h.below.setCell (p := ⟨w.heap.size, 0, none⟩) (Nat.le_refl _) _).setCell (p := ⟨w.heap.size, 1, none⟩) (Nat.le_refl _) _
theorem own_setAt {w : World} {base e size n g : Nat} {v : Value} {xs : List Value} (h : w.ownsRow base e size v n xs) (hg : v.ownBlock ≠ some g) (i : Nat) (u : Value) : (w.setCell ⟨g, i, none⟩ u).ownsRow base e size v n xs :=
  h.kept (grown_set _ _ _ _) (.inr hg)
theorem MG.body {w wr : World} {g : Nat} {v : Value} {fs : List Pr} (h : MG w wr g v fs) (b : Value) :
    let W := wr.setCell ⟨g, 1, none⟩ b
    W.cell? ⟨g, 0, none⟩ = some v ∧ W.cell? ⟨g, 1, none⟩ = some b ∧ W.cell? ⟨w.heap.size, 0, none⟩ = some (.slice none 0 0) ∧ W.cell? ⟨w.heap.size, 1, none⟩ = some (.string ⟨#[]⟩) ∧ (∀ i, W.frozen? ⟨w.heap.size, i, none⟩ = false) ∧ ∀ u c,
    let X := (W.setCell ⟨w.heap.size, 0, none⟩ u).setCell ⟨w.heap.size, 1, none⟩ c
    X.cell? ⟨w.heap.size, 0, none⟩ = some u ∧ X.cell? ⟨w.heap.size, 1, none⟩ = some c ∧ X.ownsRow w.heap.size 49 2 v fs.length (flat encP fs) ∧ Below w.heap.size w X := by
  intro W
  have hgt := h.gt
  have r1 : W.heap[w.heap.size]? = some (.cells #[.slice none 0 0, .string ⟨#[]⟩] 28 (0, 0)) := heap_setCell_at h.res 1 b (by omega)
  have b1 : W.heap[g]? = some (.cells #[v, b] 28 (0, 0)) := by
    have := heap_setCell_same wr g 1 _ _ b h.box
    simpa using this
  refine ⟨by rw [cell_of_row W _ 0 _ _ _ b1]; rfl, by rw [cell_of_row W _ 1 _ _ _ b1]; rfl, by rw [cell_of_row W _ 0 _ _ _ r1]; rfl, by rw [cell_of_row W _ 1 _ _ _ r1]; rfl, fun i => Lib.frozen_of_heap r1 i, fun u c => ?_⟩
  intro X
  have e1 := heap_setCell_same W w.heap.size 0 _ _ u r1
  have e2 : X.heap[w.heap.size]? = some (.cells #[u, c] 28 (0, 0)) := by
    have := heap_setCell_same _ w.heap.size 1 _ _ c e1
    simpa using this
  refine ⟨by rw [cell_of_row X _ 0 _ _ _ e2]; rfl, by rw [cell_of_row X _ 1 _ _ _ e2]; rfl, ?_, ?_⟩
  · exact own_mono (ownSet (ownSet (own_setAt h.own h.ne 1 b) (by omega) 0 u) (by omega) 1 c) (by omega)
  · exact ((h.below.setCell (p := ⟨g, 1, none⟩) (by show _ ≤ _; dsimp only; omega) _).setCell (p := ⟨w.heap.size, 0, none⟩) (Nat.le_refl _) _).setCell (p := ⟨w.heap.size, 1, none⟩) (Nat.le_refl _) _
theorem MG.push {w wr w3 : World} {g : Nat} {v v' : Value} {fs : List Pr} {f : Pr} {u : Value} (h : MG w wr g v fs) (hp : Pushed (w.heap.size + 1) 49 2 v (fs.length + 1) (flat encP fs ++ encP f) wr v' w3) (hu : u = v') : MG w (w3.setCell ⟨g, 0, none⟩ u) g v' (fs ++ [f]) := by
  subst hu
  have hlt := h.lt
  have hgt := h.gt
  have r1 : w3.heap[w.heap.size]? = _ := (hp.2.block _ (by omega) (fun e => by have := (h.own.lt _ e.symm).1; omega)).trans h.res
  have b1 : w3.heap[g]? = _ := (hp.2.block g hlt (fun e => h.ne e.symm)).trans h.box
  have hne : u.ownBlock ≠ some g := own_ne_blk hp.1 b1 (by decide)
  refine ⟨heap_setCell_at r1 0 u (by omega), ?_, ?_, ?_, hgt⟩
  · have := heap_setCell_same w3 g 0 _ _ u b1
    simpa using this
  · refine own_setAt ?_ hne 0 u
    rw [flat_append, List.length_append, flat_cons, flat_nil, List.append_nil]
    exact hp.1
  · exact (hp.below' h.own h.below (by omega) (by omega)).setCell (p := ⟨g, 0, none⟩) (by show _ ≤ _; dsimp only; omega) _
theorem MG.pushedCells {w wr w3 : World} {g : Nat} {v v' : Value} {n : Nat} {fs : List Pr} {ys : List Value} (h : MG w wr g v fs) (hp : Pushed (w.heap.size + 1) 49 2 v n ys wr v' w3) : w3.cell? ⟨g, 0, none⟩ = some v ∧ ∀ i, w3.frozen? ⟨g, i, none⟩ = false := by
  have b1 : w3.heap[g]? = _ := (hp.2.block g h.lt (fun e => h.ne e.symm)).trans h.box
  exact ⟨by rw [cell_of_row w3 _ 0 _ _ _ b1]; rfl, fun i => Lib.frozen_of_heap b1 i⟩
theorem MG.start (w : World) : MG w (((w.alloc (.cells #[.slice none 0 0, .string ⟨#[]⟩] 28)).alloc (.cells #[] 49)).alloc (.cells #[.slice (some ⟨w.heap.size + 1, 0, none⟩) 0 0, .string ⟨#[]⟩] 28)) (w.heap.size + 1 + 1) (.slice (some ⟨w.heap.size + 1, 0, none⟩) 0 0) [] := by
  refine ⟨?_, ?_, ?_, by repeat (first | exact Below.refl _ _ | assumption | refine Below.drew ?_ | refine below_drewN ?_ _ | refine Below.setCell ?_ (by first | exact Nat.le_refl _ | exact Below.size (by assumption) | (simp; done) | (simp; omega) | omega) _ | refine Below.alloc ?_ (by first | exact Nat.le_refl _ | exact Below.size (by assumption) | (simp; done) | (simp; omega) | omega) _), by omega⟩
  · exact (Below.heap_alloc _ _ _ (by simp; omega)).trans ((Below.heap_alloc _ _ _ (by simp)).trans (heap_alloc_new _ _))
  · have h := heap_alloc_new ((w.alloc (.cells #[.slice none 0 0, .string ⟨#[]⟩] 28)).alloc (.cells #[] 49)) (.cells #[.slice (some ⟨w.heap.size + 1, 0, none⟩) 0 0, .string ⟨#[]⟩] 28)
    rwa [World.size_alloc, World.size_alloc] at h
  · refine own_empty_at (Nat.le_refl _) ((Below.heap_alloc _ _ _ (by simp)).trans ?_)
    have h := heap_alloc_new (w.alloc (.cells #[.slice none 0 0, .string ⟨#[]⟩] 28)) (.cells #[] 49)
    rwa [World.size_alloc] at h
theorem lineM_none {l : List UInt8} (h : cut1 58 l = none) : lineM l = none := by rw [lineM, h]
theorem lineM_some {l : List UInt8} {p : List UInt8 × List UInt8} (h : cut1 58 l = some p) : lineM l = match p.2 with
    | [] => none
    | b :: v => if b = 32 then if lineB p.1 v = true then some (bs p.1, bs v) else none else none := by cases hh : p.2 <;> simp [lineM, h, hh]
theorem bs_isE (l : List UInt8) : (bs l).toList.isEmpty = l.isEmpty := by rw [ByteArray.toList_eq]
theorem oldA {w : World} {p : Addr} {u : Value} {o : Obj} (h : w.cell? p = some u) (hp : p.block < w.heap.size) : (w.alloc o).cell? p = some u := (World.cell?_of_block (Below.heap_alloc _ _ _ hp)).trans h
theorem u8_ne {c d : UInt8} (h : ¬ (c.toNat : Int) = d.toNat) : c ≠ d := fun e => h (by rw [e])
theorem u8_eq {c d : UInt8} (h : (c.toNat : Int) = d.toNat) : c = d := UInt8.toNat_inj.1 (by omega)
set_option maxRecDepth 100000 in
set_option maxHeartbeats 4000000 in
theorem l08Parse_any (l : List UInt8) (w : World) (hl : l.length ≤ 1048576) :
    Calls Tryd.prog 36 #[.string (bs l)] w (MsgPost l.length (parM l) w) := by
  have HM0 := Lib.hid (MG.start w)
  go_enter Tryd.func36, Tryd.ntmps36
  go_wp2_with fail
  go_loopw [0] (fun t wr => ∃ (l' : List UInt8) (fs : List Pr) (v : Value), t = .string (bs l') ∧ msgM [] l = msgM fs l' ∧ fs.length + l'.length ≤ l.length ∧ (∀ p ∈ fs, p.1.size ≤ l.length ∧ p.2.size ≤ l.length) ∧ MG w wr (w.heap.size + 1 + 1) v fs) (fun t _ => lenOf' t)
  case atStart => exact ⟨l, [], _, rfl, rfl, by simp, by simp, HM0.out⟩
  case round =>
    obtain ⟨l', fs, v, rfl, he, hn, hz, hmb⟩ := hrel
    have HE := Lib.hid he
    have HZ := Lib.hid hz
    have HMB := Lib.hid hmb
    have HN := Lib.hid hn
    have hl' : l'.length ≤ 1048576 := by omega
    have HLL := Lib.hid hl'
    obtain ⟨r0, r1, r2, r3, r4, r5⟩ := hmb.cells
    have HSZ := Lib.hid (bs_size l')
    clear he hz hmb hn HM0
    go_wp2_with fail
    go_loop [5] (fun i => ∃ k : Nat, k ≤ l'.length ∧ i = .int .i64 k ∧ ∀ j (h : j < l'.length), j < k → l'[j] ≠ 10) (fun i => l'.length - (intOf i).toNat)
    case atStart => exact ⟨0, Nat.zero_le _, rfl, fun j _ hj => by omega⟩
    case round =>
      obtain ⟨k, hk, rfl, hno⟩ := hrel
      have HNO := Lib.hid hno
      clear hno
      by_cases hlt : k < l'.length
      · have hk2 : k < (bs l').size := by rw [bs_size]; exact hlt
        by_cases hc : ((bs l')[k].toNat : Int) = 10
        · have HC1 := Lib.hid (cut1_at l' k hlt (u8_eq (d := 10) hc) (fun i hi => HNO.out i (by omega) hi))
          obtain ⟨ln, hln⟩ : ∃ ln, ln = l'.take k := ⟨_, rfl⟩
          obtain ⟨rest, hrest⟩ : ∃ rest, rest = l'.drop (k + 1) := ⟨_, rfl⟩
          have HLEN : Hid (ln.length = k ∧ rest.length + k + 1 = l'.length) := ⟨by rw [hln, List.length_take]; omega, by rw [hrest, List.length_drop]; omega⟩
          have e1 : (bs l').extract 0 k = bs ln := by rw [hln]; exact bs_take l' k
          have e2 : (bs l').extract (k + 1) l'.length = bs rest := by rw [hrest]; exact bs_drop l' (k + 1)
          rw [← hln, ← hrest] at HC1
          have HST := Lib.hid (msgM_some (fs := fs) HC1.out)
          clear hln hrest HC1 HNO
          by_cases h0 : ln = []
          · have HR : Hid (msgM [] l = some (fs, rest)) := by show msgM [] l = _; rw [HE.out, HST.out, if_pos h0]
            have HO := Lib.hid (HMB.out.body (.string (bs rest)))
            have hie : ((bs l').extract 0 k).toList.isEmpty = true := by rw [e1, bs_isE, h0]; rfl
            subst h0
            go_wp2_with fail
            (try simp only [e1, e2])
            generalize wr.setCell ⟨w.heap.size + 1 + 1, 1, none⟩ (.string (bs rest)) = W4 at HO ⊢
            obtain ⟨y0, y1, y2, y3, y4, hx⟩ := HO.out
            have HX := Lib.hid hx
            obtain ⟨A, c, rfl, _⟩ := own_form HMB.out.own
            clear r0 r1 r2 r3 r4 r5 hx HO
            go_region
            have HX2 := Lib.hid (HX.out (.slice A fs.length c) (.string (bs rest)))
            go_wp2_with fail
            generalize (W4.setCell ⟨w.heap.size, 0, none⟩ (.slice A fs.length c)).setCell ⟨w.heap.size, 1, none⟩ (.string (bs rest)) = W5 at HX2 ⊢
            obtain ⟨z0, z1, ho, hb⟩ := HX2.out
            refine bodyPost_ret (v := .tuple #[msgV A fs.length c (bs rest), .bool (decide ((fs.length : Int) ≤ 8))]) (by simp [results, Tryd.results36, go_sem, z0, z1]) rfl ?_
            rw [parM_end HR.out]
            exact msgPost_end (n := l.length) (fs := fs) (b := rest) ho.drew hb.drew (by have := HN.out; omega) (by rw [bs_size]; have := HN.out; have := HLEN.out.2; omega) HZ.out
          · have hie2 : ln.isEmpty = false := by cases ln with | nil => exact absurd rfl h0 | cons => rfl
            have hie3 : (bs ln).toList.isEmpty = false := by rw [bs_isE]; exact hie2
            have HSL : Hid (msgM [] l = match lineM ln with | none => none | some f => msgM (fs ++ [f]) rest) := (HE.out.trans HST.out).trans (if_neg h0)
            have HLL2 : Hid (ln.length ≤ 1048576 ∧ rest.length < l'.length) := ⟨by have := HLEN.out.1; omega, by have := HLEN.out.2; omega⟩
            have HNL : Hid (fs.length + 1 + rest.length ≤ l.length ∧ ln.length ≤ l.length ∧ fs.length ≤ 1048576) := ⟨by have := HN.out; have := HLEN.out.2; omega, by have := HN.out; have := HLEN.out; omega, by have := HN.out; omega⟩
            clear h0 HST
            have HSZ2 := Lib.hid (bs_size ln)
            go_wp2_with fail
            (try simp only [e1, e2])
            clear e1 e2 hie2 hie3 hc HLEN
            have hll2 : ln.length ≤ 1048576 := HLL2.out.1
            go_loop [7] (fun i => ∃ c : Nat, c ≤ ln.length ∧ i = .int .i64 c ∧ ∀ j (h : j < ln.length), j < c → ln[j] ≠ 58) (fun i => ln.length - (intOf i).toNat)
            case atStart => exact ⟨0, Nat.zero_le _, rfl, fun j _ hj => by omega⟩
            case round =>
              obtain ⟨c, hcl, rfl, hno⟩ := hrel
              have HNO := Lib.hid hno
              clear hno
              by_cases hlt : c < ln.length
              · have hc2 : c < (bs ln).size := by rw [bs_size]; exact hlt
                by_cases hc : ((bs ln)[c].toNat : Int) = 58
                · have HC1 := Lib.hid (lineM_some (cut1_at ln c hlt (u8_eq (d := 58) hc) (fun i hi => HNO.out i (by omega) hi)))
                  clear HNO
                  by_cases h1 : c + 1 < ln.length
                  · have hdr : ln.drop (c + 1) = ln[c + 1] :: ln.drop (c + 1 + 1) := List.drop_eq_getElem_cons h1
                    have HD := Lib.hid hdr
                    clear hdr
                    have hc3 : c + 1 < (bs ln).size := by rw [bs_size]; exact h1
                    by_cases h2 : ((bs ln)[c + 1].toNat : Int) = 32
                    · obtain ⟨nm, hnm⟩ : ∃ nm, nm = ln.take c := ⟨_, rfl⟩
                      obtain ⟨vl, hvl⟩ : ∃ vl, vl = ln.drop (c + 1 + 1) := ⟨_, rfl⟩
                      have e1 : (bs ln).extract 0 c = bs nm := by rw [hnm]; exact bs_take ln c
                      have e2 : (bs ln).extract (c + 2) ln.length = bs vl := by rw [hvl]; exact bs_drop ln (c + 2)
                      have HLM : Hid (lineM ln = if lineB nm vl = true then some (bs nm, bs vl) else none) := by
                        show lineM ln = _
                        rw [HC1.out]
                        simp only [HD.out]
                        rw [if_pos (show ln[c + 1] = 32 from u8_eq (d := 32) h2), hnm, hvl]
                      have HQL : Hid (nm.length ≤ ln.length ∧ vl.length ≤ ln.length) := ⟨by rw [hnm, List.length_take]; omega, by rw [hvl, List.length_drop]; omega⟩
                      have HLN := Lib.hid (fun W => l08Name_any (bs nm) W (by rw [bs_size]; have := HQL.out; simp only [maxLen]; omega))
                      have HLV := Lib.hid (fun W => l08Value_any (bs vl) W (by rw [bs_size]; have := HQL.out; simp only [maxLen]; omega))
                      rw [show (bs nm).data.toList = nm from rfl] at HLN
                      rw [show (bs vl).data.toList = vl from rfl] at HLV
                      clear hnm hvl HC1 HD
                      cases hok1 : lnB nm with
                      | false =>
                        have hlb : lineB nm vl = false := by rw [lineB, hok1]; rfl
                        have HPN : Hid (parM l = none) := by show parM l = none; rw [parM, HSL.out, HLM.out, if_neg (by rw [hlb]; simp)]
                        clear hlb
                        rw [hok1] at HLN
                        clear hok1
                        have HO := Lib.hid (HMB.out.out (.slice none 0 0) (.string ⟨#[]⟩))
                        go_wp2_with (first | (go_at_call 56; refine (HLN.out _).mono ?_; rintro e w' ⟨rfl, rfl⟩))
                        generalize (wr.setCell ⟨w.heap.size, 0, none⟩ (.slice none 0 0)).setCell ⟨w.heap.size, 1, none⟩ (.string ⟨#[]⟩) = W5 at HO ⊢
                        obtain ⟨z0, z1, ho, hb⟩ := HO.out
                        refine bodyPost_ret (v := .tuple #[msgV none 0 0 ⟨#[]⟩, .bool false]) (by simp [results, Tryd.results36, go_sem, z0, z1]) rfl (msgPost_no HPN.out hb)
                      | true =>
                        rw [hok1] at HLN
                        cases hok2 : lvB vl with
                        | false =>
                          have hlb : lineB nm vl = false := by rw [lineB, hok1, hok2]; rfl
                          have HPN : Hid (parM l = none) := by show parM l = none; rw [parM, HSL.out, HLM.out, if_neg (by rw [hlb]; simp)]
                          clear hlb
                          rw [hok2] at HLV
                          clear hok1 hok2
                          have HO := Lib.hid (HMB.out.out (.slice none 0 0) (.string ⟨#[]⟩))
                          go_wp2_with (first | (go_at_call 56; refine (HLN.out _).mono ?_; rintro e w' ⟨rfl, rfl⟩) | (go_at_call 57; refine (HLV.out _).mono ?_; rintro e w' ⟨rfl, rfl⟩))
                          generalize (wr.setCell ⟨w.heap.size, 0, none⟩ (.slice none 0 0)).setCell ⟨w.heap.size, 1, none⟩ (.string ⟨#[]⟩) = W5 at HO ⊢
                          obtain ⟨z0, z1, ho, hb⟩ := HO.out
                          refine bodyPost_ret (v := .tuple #[msgV none 0 0 ⟨#[]⟩, .bool false]) (by simp [results, Tryd.results36, go_sem, z0, z1]) rfl (msgPost_no HPN.out hb)
                        | true =>
                          rw [hok2] at HLV
                          have hlb : lineB nm vl = true := by rw [lineB, hok1, hok2]; rfl
                          have HNX : Hid (msgM [] l = msgM (fs ++ [(bs nm, bs vl)]) rest) := by show msgM [] l = _; rw [HSL.out, HLM.out, if_pos hlb]
                          clear hlb
                          clear hok1 hok2 HSL HLM
                          go_wp2_with (first | (go_at_call 56; refine (HLN.out _).mono ?_; rintro e w' ⟨rfl, rfl⟩) | (go_at_call 57; refine (HLV.out _).mono ?_; rintro e w' ⟨rfl, rfl⟩))
                          have hb1 : (0 : Int) ≤ (c : Int) + 2 := by omega
                          have hb2 : (c : Int) + 2 ≤ (ln.length : Int) := by omega
                          have hb3 : ((c : Int) + 2).toNat = c + 2 := by omega
                          have hb4 : IntKind.i64.wrap ((c : Int) + 2) = (c : Int) + 2 := IntWalk.i64_in _ (by omega)
                          have hltw := HMB.out.lt
                          have hx0 : w.heap.size + 1 + 1 < wr.heap.size := hltw
                          refine wp_region_noPanic ?_
                          refine wp_region_held_drew (S := fun _ => True) (by kernel_rfl) ?_ (fun hHeld => ?_)
                          · trivial
                          refine wpAnyH_take (i := 0) (oi := ⟨some 83, _, _, _, _, _⟩) (v := ?_) rfl (by kernel_rfl) (by kernel_rfl) (by kernel_rfl) (fun _ _ _ h => h) (Or.inl ⟨by simp [Region.wanted, yielded, undef], ?_⟩) (by assumption) ?_
                          rotate_left
                          · ((intro w hSw; (try dsimp only at hSw); go_simp) <;> with_reducible rfl)
                          (try simp only [Act.put, List.setIfInBounds_toArray, List.set_cons_zero, List.set_cons_succ])
                          refine wpAnyH_take (i := 2) (oi := ⟨some 85, _, _, _, _, _⟩) (v := ?_) rfl (by kernel_rfl) (by kernel_rfl) (by kernel_rfl) (fun _ _ _ h => h) (Or.inl ⟨by simp [Region.wanted, yielded, undef], ?_⟩) (by assumption) ?_
                          rotate_left
                          · ((intro w hSw; (try dsimp only at hSw); go_simp) <;> with_reducible rfl)
                          (try simp only [Act.put, List.setIfInBounds_toArray, List.set_cons_zero, List.set_cons_succ])
                          refine wpAnyH_take (i := 3) (oi := ⟨some 86, _, _, _, _, _⟩) (v := ?_) rfl (by kernel_rfl) (by kernel_rfl) (by kernel_rfl) (fun _ _ _ h => h) (Or.inl ⟨by simp [Region.wanted, yielded, undef], ?_⟩) (by assumption) ?_
                          rotate_left
                          · ((intro w hSw; (try dsimp only at hSw); go_simp) <;> with_reducible rfl)
                          (try simp only [Act.put, List.setIfInBounds_toArray, List.set_cons_zero, List.set_cons_succ])
                          refine wpAnyH_take (i := 4) (oi := ⟨some 87, _, _, _, _, _⟩) (v := ?_) rfl (by kernel_rfl) (by kernel_rfl) (by kernel_rfl) (fun _ _ _ h => h) (Or.inl ⟨by simp [Region.wanted, yielded, undef], ?_⟩) (by assumption) ?_
                          rotate_left
                          · ((intro w hSw; (try dsimp only at hSw); go_simp) <;> with_reducible rfl)
                          (try simp only [Act.put, List.setIfInBounds_toArray, List.set_cons_zero, List.set_cons_succ])
                          refine wpAnyH_take (i := 5) (oi := ⟨some 88, _, _, _, _, _⟩) (v := ?_) rfl (by kernel_rfl) (by kernel_rfl) (by kernel_rfl) (fun _ _ _ h => h) (Or.inl ⟨by simp [Region.wanted, yielded, undef], ?_⟩) (by assumption) ?_
                          rotate_left
                          · ((intro w hSw; (try dsimp only at hSw); go_simp) <;> with_reducible rfl)
                          (try simp only [Act.put, List.setIfInBounds_toArray, List.set_cons_zero, List.set_cons_succ])
                          refine wpAnyH_take (i := 6) (oi := ⟨some 89, _, _, _, _, _⟩) (v := ?_) rfl (by kernel_rfl) (by kernel_rfl) (by kernel_rfl) (fun _ _ _ h => h) (Or.inl ⟨by simp [Region.wanted, yielded, undef], ?_⟩) (by assumption) ?_
                          rotate_left
                          · ((intro w hSw; (try dsimp only at hSw); go_simp) <;> with_reducible rfl)
                          (try simp only [Act.put, List.setIfInBounds_toArray, List.set_cons_zero, List.set_cons_succ])
                          refine wpAnyH_take (i := 7) (oi := ⟨some 90, _, _, _, _, _⟩) (v := ?_) rfl (by kernel_rfl) (by kernel_rfl) (by kernel_rfl) (fun _ _ _ h => h) (Or.inl ⟨by simp [Region.wanted, yielded, undef], ?_⟩) (by assumption) ?_
                          rotate_left
                          · ((intro w hSw; (try dsimp only at hSw); go_simp) <;> with_reducible rfl)
                          (try simp only [Act.put, List.setIfInBounds_toArray, List.set_cons_zero, List.set_cons_succ])
                          refine wpAnyH_take (i := 8) (oi := ⟨some 91, _, _, _, _, _⟩) (v := ?_) rfl (by kernel_rfl) (by kernel_rfl) (by kernel_rfl) (fun _ _ _ h => h) (Or.inl ⟨by simp [Region.wanted, yielded, undef], ?_⟩) (by assumption) ?_
                          rotate_left
                          · ((intro w hSw; (try dsimp only at hSw); go_simp) <;> with_reducible rfl)
                          (try simp only [Act.put, List.setIfInBounds_toArray, List.set_cons_zero, List.set_cons_succ])
                          refine wpAnyH_take (i := 9) (oi := ⟨some 92, _, _, _, _, _⟩) (v := ?_) rfl (by kernel_rfl) (by kernel_rfl) (by kernel_rfl) (fun _ _ _ h => h) (Or.inl ⟨by simp [Region.wanted, yielded, undef], ?_⟩) (by assumption) ?_
                          rotate_left
                          · ((intro w hSw; (try dsimp only at hSw); go_simp) <;> with_reducible rfl)
                          (try simp only [Act.put, List.setIfInBounds_toArray, List.set_cons_zero, List.set_cons_succ])
                          refine wpAnyH_ready (rs := [1, 10]) (by kernel_rfl) (by simp) ?_
                          refine AllReadyH.cons (o := ⟨some 84, _, _, _, _, _⟩) rfl (fun K hK => ?_) (AllReadyH.cons (o := ⟨some 93, _, _, _, _, _⟩) rfl (fun K hK => ?_) AllReadyH.nil)
                          · go_simp
                            refine hK.out _ _ ?_ (fun hHeld => ?_)
                            · trivial
                            clear hK K
                            (try simp only [Act.put, List.setIfInBounds_toArray, List.set_cons_zero, List.set_cons_succ])
                            refine wpAnyH_ready (rs := [10]) (by kernel_rfl) (by simp) ?_
                            refine AllReadyH.cons (o := ⟨some 93, _, _, _, _, _⟩) rfl (fun K hK => ?_) AllReadyH.nil
                            go_simp
                            refine hK.out _ _ ?_ (fun hHeld => ?_)
                            · trivial
                            clear hK K
                            (try simp only [Act.put, List.setIfInBounds_toArray, List.set_cons_zero, List.set_cons_succ])
                            refine wpAnyH_ready (rs := [11]) (by kernel_rfl) (by simp) ?_
                            refine AllReadyH.cons (o := ⟨some 94, _, _, _, _, _⟩) rfl (fun K hK => ?_) AllReadyH.nil
                            refine step_push_one elField rfl _ _ rfl (w.heap.size + 1) v fs.length (flat encP fs) rfl (own_below HMB.out.own (by repeat (first | exact Below.refl _ _ | assumption | refine Below.drew ?_ | refine below_drewN ?_ _ | refine Below.setCell ?_ (by first | exact Nat.le_refl _ | exact Below.size (by assumption) | (simp; done) | (simp; omega) | omega) _ | refine Below.alloc ?_ (by first | exact Nat.le_refl _ | exact Below.size (by assumption) | (simp; done) | (simp; omega) | omega) _))) wr.heap.size [.string (bs nm), .string (bs vl)] (heap_alloc_new _ _) rfl rfl (by simp [Value.oneCell']) (by have := HNL.out; simp only [maxLen]; omega) (by have := HNL.out; omega) (by simp; omega) ?_
                            intro v6 w6 hp6
                            obtain ⟨A6, c6, rfl, _⟩ := own_form hp6.1
                            have HM6 := Lib.hid ((HMB.out.old (by repeat (first | exact Below.refl _ _ | assumption | refine Below.drew ?_ | refine below_drewN ?_ _ | refine Below.setCell ?_ (by first | exact Nat.le_refl _ | exact Below.size (by assumption) | (simp; done) | (simp; omega) | omega) _ | refine Below.alloc ?_ (by first | exact Nat.le_refl _ | exact Below.size (by assumption) | (simp; done) | (simp; omega) | omega) _))).push (f := (bs nm, bs vl)) hp6 rfl)
                            obtain ⟨s0, s1⟩ := MG.pushedCells (HMB.out.old (by repeat (first | exact Below.refl _ _ | assumption | refine Below.drew ?_ | refine below_drewN ?_ _ | refine Below.setCell ?_ (by first | exact Nat.le_refl _ | exact Below.size (by assumption) | (simp; done) | (simp; omega) | omega) _ | refine Below.alloc ?_ (by first | exact Nat.le_refl _ | exact Below.size (by assumption) | (simp; done) | (simp; omega) | omega) _))) hp6
                            clear hp6
                            refine hK.out _ _ ?_ (fun hHeld => ?_)
                            · trivial
                            clear hK K
                            (try simp only [Act.put, List.setIfInBounds_toArray, List.set_cons_zero, List.set_cons_succ])
                            refine wpAnyH_take (i := 12) (oi := ⟨some 95, _, _, _, _, _⟩) (v := ?_) rfl (by kernel_rfl) (by kernel_rfl) (by kernel_rfl) (fun _ _ _ h => h) (Or.inl ⟨by simp [Region.wanted, yielded, undef], ?_⟩) (by assumption) ?_
                            rotate_left
                            · ((intro w hSw; (try dsimp only at hSw); go_simp) <;> with_reducible rfl)
                            (try simp only [Act.put, List.setIfInBounds_toArray, List.set_cons_zero, List.set_cons_succ])
                            refine wpAnyH_ready (rs := [13]) (by kernel_rfl) (by simp) ?_
                            refine AllReadyH.cons rfl (fun K hK => ?_) AllReadyH.nil
                            go_simp
                            refine hK.out _ _ ?_ (fun hHeld => ?_)
                            · trivial
                            clear hK K
                            (try simp only [Act.put, List.setIfInBounds_toArray, List.set_cons_zero, List.set_cons_succ])
                            refine wpAnyH_done (by kernel_rfl) ?_ _
                            refine NoPanic.normal ?_
                            go_wp2_with fail
                            go_roundw
                            case rel =>
                              refine ⟨rest, fs ++ [(bs nm, bs vl)], _, rfl, HNX.out, ?_, ?_, HM6.out⟩
                              · have := HNL.out; simp; omega
                              · intro p hp
                                have hq := HQL.out
                                have := HNL.out
                                rw [List.mem_append] at hp
                                rcases hp with hp | hp
                                · exact HZ.out p hp
                                · rw [List.mem_singleton.1 hp, bs_size, bs_size]
                                  exact ⟨by omega, by omega⟩
                            case measure => simp only [lenOf', bs_size]; have := HLL2.out; omega
                          · go_simp
                            refine hK.out _ _ ?_ (fun hHeld => ?_)
                            · trivial
                            clear hK K
                            (try simp only [Act.put, List.setIfInBounds_toArray, List.set_cons_zero, List.set_cons_succ])
                            have c3a := oldA (o := .cells #[.string (bs nm), .string (bs vl)] 49) r2 hx0
                            refine wpAnyH_ready (rs := [1]) (by kernel_rfl) (by simp) ?_
                            refine AllReadyH.cons (o := ⟨some 84, _, _, _, _, _⟩) rfl (fun K hK => ?_) AllReadyH.nil
                            go_simp
                            refine hK.out _ _ ?_ (fun hHeld => ?_)
                            · trivial
                            clear hK K
                            (try simp only [Act.put, List.setIfInBounds_toArray, List.set_cons_zero, List.set_cons_succ])
                            refine wpAnyH_ready (rs := [11]) (by kernel_rfl) (by simp) ?_
                            refine AllReadyH.cons (o := ⟨some 94, _, _, _, _, _⟩) rfl (fun K hK => ?_) AllReadyH.nil
                            refine step_push_one elField rfl _ _ rfl (w.heap.size + 1) v fs.length (flat encP fs) rfl (own_below HMB.out.own (by repeat (first | exact Below.refl _ _ | assumption | refine Below.drew ?_ | refine below_drewN ?_ _ | refine Below.setCell ?_ (by first | exact Nat.le_refl _ | exact Below.size (by assumption) | (simp; done) | (simp; omega) | omega) _ | refine Below.alloc ?_ (by first | exact Nat.le_refl _ | exact Below.size (by assumption) | (simp; done) | (simp; omega) | omega) _))) wr.heap.size [.string (bs nm), .string (bs vl)] (heap_alloc_new _ _) rfl rfl (by simp [Value.oneCell']) (by have := HNL.out; simp only [maxLen]; omega) (by have := HNL.out; omega) (by simp; omega) ?_
                            intro v6 w6 hp6
                            obtain ⟨A6, c6, rfl, _⟩ := own_form hp6.1
                            have HM6 := Lib.hid ((HMB.out.old (by repeat (first | exact Below.refl _ _ | assumption | refine Below.drew ?_ | refine below_drewN ?_ _ | refine Below.setCell ?_ (by first | exact Nat.le_refl _ | exact Below.size (by assumption) | (simp; done) | (simp; omega) | omega) _ | refine Below.alloc ?_ (by first | exact Nat.le_refl _ | exact Below.size (by assumption) | (simp; done) | (simp; omega) | omega) _))).push (f := (bs nm, bs vl)) hp6 rfl)
                            obtain ⟨s0, s1⟩ := MG.pushedCells (HMB.out.old (by repeat (first | exact Below.refl _ _ | assumption | refine Below.drew ?_ | refine below_drewN ?_ _ | refine Below.setCell ?_ (by first | exact Nat.le_refl _ | exact Below.size (by assumption) | (simp; done) | (simp; omega) | omega) _ | refine Below.alloc ?_ (by first | exact Nat.le_refl _ | exact Below.size (by assumption) | (simp; done) | (simp; omega) | omega) _))) hp6
                            clear hp6
                            refine hK.out _ _ ?_ (fun hHeld => ?_)
                            · trivial
                            clear hK K
                            (try simp only [Act.put, List.setIfInBounds_toArray, List.set_cons_zero, List.set_cons_succ])
                            refine wpAnyH_take (i := 12) (oi := ⟨some 95, _, _, _, _, _⟩) (v := ?_) rfl (by kernel_rfl) (by kernel_rfl) (by kernel_rfl) (fun _ _ _ h => h) (Or.inl ⟨by simp [Region.wanted, yielded, undef], ?_⟩) (by assumption) ?_
                            rotate_left
                            · ((intro w hSw; (try dsimp only at hSw); go_simp) <;> with_reducible rfl)
                            (try simp only [Act.put, List.setIfInBounds_toArray, List.set_cons_zero, List.set_cons_succ])
                            refine wpAnyH_ready (rs := [13]) (by kernel_rfl) (by simp) ?_
                            refine AllReadyH.cons rfl (fun K hK => ?_) AllReadyH.nil
                            go_simp
                            refine hK.out _ _ ?_ (fun hHeld => ?_)
                            · trivial
                            clear hK K
                            (try simp only [Act.put, List.setIfInBounds_toArray, List.set_cons_zero, List.set_cons_succ])
                            refine wpAnyH_done (by kernel_rfl) ?_ _
                            refine NoPanic.normal ?_
                            go_wp2_with fail
                            go_roundw
                            case rel =>
                              refine ⟨rest, fs ++ [(bs nm, bs vl)], _, rfl, HNX.out, ?_, ?_, HM6.out⟩
                              · have := HNL.out; simp; omega
                              · intro p hp
                                have hq := HQL.out
                                have := HNL.out
                                rw [List.mem_append] at hp
                                rcases hp with hp | hp
                                · exact HZ.out p hp
                                · rw [List.mem_singleton.1 hp, bs_size, bs_size]
                                  exact ⟨by omega, by omega⟩
                            case measure => simp only [lenOf', bs_size]; have := HLL2.out; omega
                    · have HPN : Hid (parM l = none) := by
                        show parM l = none
                        rw [parM, HSL.out, HC1.out]
                        simp only [HD.out]
                        rw [if_neg (show ¬ ln[c + 1] = 32 from u8_ne (d := 32) h2)]
                      clear HC1 HD
                      have HO := Lib.hid (HMB.out.out (.slice none 0 0) (.string ⟨#[]⟩))
                      go_wp2_with fail
                      generalize (wr.setCell ⟨w.heap.size, 0, none⟩ (.slice none 0 0)).setCell ⟨w.heap.size, 1, none⟩ (.string ⟨#[]⟩) = W5 at HO ⊢
                      obtain ⟨z0, z1, ho, hb⟩ := HO.out
                      refine bodyPost_ret (v := .tuple #[msgV none 0 0 ⟨#[]⟩, .bool false]) (by simp [results, Tryd.results36, go_sem, z0, z1]) rfl (msgPost_no HPN.out hb)
                  · have HPN : Hid (parM l = none) := by
                      show parM l = none
                      rw [parM, HSL.out, HC1.out]
                      simp only [List.drop_eq_nil_of_le (show ln.length ≤ c + 1 from by omega)]
                    clear HC1
                    have HO := Lib.hid (HMB.out.out (.slice none 0 0) (.string ⟨#[]⟩))
                    go_wp2_with fail
                    generalize (wr.setCell ⟨w.heap.size, 0, none⟩ (.slice none 0 0)).setCell ⟨w.heap.size, 1, none⟩ (.string ⟨#[]⟩) = W5 at HO ⊢
                    obtain ⟨z0, z1, ho, hb⟩ := HO.out
                    refine bodyPost_ret (v := .tuple #[msgV none 0 0 ⟨#[]⟩, .bool false]) (by simp [results, Tryd.results36, go_sem, z0, z1]) rfl (msgPost_no HPN.out hb)
                · have HNE := Lib.hid (u8_ne (d := 58) hc)
                  go_wp2_with fail
                  go_round
                  case rel =>
                    refine ⟨c + 1, by omega, by go_num, fun j h hj => ?_⟩
                    by_cases hjc : j = c
                    · subst hjc; exact HNE.out
                    · exact HNO.out j h (by omega)
                  case measure => simp [intOf]; omega
              · have HPN : Hid (parM l = none) := by show parM l = none; rw [parM, HSL.out, lineM_none (cut1_miss ln (fun i hi => HNO.out i hi (by omega)))]
                clear HSL HNO
                have HO := Lib.hid (HMB.out.out (.slice none 0 0) (.string ⟨#[]⟩))
                go_wp2_with fail
                generalize (wr.setCell ⟨w.heap.size, 0, none⟩ (.slice none 0 0)).setCell ⟨w.heap.size, 1, none⟩ (.string ⟨#[]⟩) = W5 at HO ⊢
                obtain ⟨z0, z1, ho, hb⟩ := HO.out
                refine bodyPost_ret (v := .tuple #[msgV none 0 0 ⟨#[]⟩, .bool false]) (by simp [results, Tryd.results36, go_sem, z0, z1]) rfl (msgPost_no HPN.out hb)
        · have HNE := Lib.hid (u8_ne (d := 10) hc)
          go_wp2_with fail
          go_round
          case rel =>
            refine ⟨k + 1, by omega, by go_num, fun j h hj => ?_⟩
            by_cases hjk : j = k
            · subst hjk; exact HNE.out
            · exact HNO.out j h (by omega)
          case measure => simp [intOf]; omega
      · have HPN : Hid (parM l = none) := by show parM l = none; rw [parM, HE.out, msgM_none (cut1_miss l' (fun i hi => HNO.out i hi (by omega)))]
        clear HNO
        have HO := Lib.hid (HMB.out.out (.slice none 0 0) (.string ⟨#[]⟩))
        go_wp2_with fail
        generalize (wr.setCell ⟨w.heap.size, 0, none⟩ (.slice none 0 0)).setCell ⟨w.heap.size, 1, none⟩ (.string ⟨#[]⟩) = W5 at HO ⊢
        obtain ⟨z0, z1, ho, hb⟩ := HO.out
        refine bodyPost_ret (v := .tuple #[msgV none 0 0 ⟨#[]⟩, .bool false]) (by simp [results, Tryd.results36, go_sem, z0, z1]) rfl (msgPost_no HPN.out hb)
end Go.Proofs.YtlfnpnkpjdmonaaDoor
