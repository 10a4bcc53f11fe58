import Derived.Test.YtlfnpnkpjdmonaaSrcPairs
set_option linter.unusedVariables false
set_option linter.unusedSimpArgs false
namespace Go.Proofs.Ytlfnpnkpjdmonaa
open Go.RowKit

/-! ### the pair operations as they are called -/
def DrawnPost (w : World) (e : Ending) (w' : World) : Prop := ∃ (q c : Nat) (l : List Pr), e = .returned (.slice (some ⟨q, 0, none⟩) l.length c) ∧ DrawnP l ∧ w'.ownsRow w.heap.size 82 2 (.slice (some ⟨q, 0, none⟩) l.length c) l.length (flat encP l) ∧ Below w.heap.size w w'
theorem pairsOf_any (A : Option Addr) (c : Nat) (xs : List UInt8) (w : World) (hx : Rd w w.heap.size A (xs.map bv)) (hl : xs.length ≤ 1048576) :
    Calls Try.prog 51 #[.slice A xs.length c] w (DrawnPost w) := by
  have HX := Lib.hid hx
  clear hx
  go_enter Try.func51, Try.ntmps51
  go_wp2_with fail
  refine (source_any A c xs _ HX.out hl).mono ?_
  rintro e w1 ⟨rfl, hs, hb⟩
  have hsz := hb.size
  have HS := Lib.hid hs
  clear hs
  go_wp2_with fail
  refine (pairs_any w.heap.size 0 _ HS.out (by omega)).mono ?_
  rintro e w2 ⟨q, d, ys, rfl, hd, ho, _, hg⟩
  have HO := Lib.hid (And.intro hd (And.intro (own_mono ho hsz) (hb.trans (below_grown (some w.heap.size) hg hsz (fun k e => by injection e; omega)))))
  clear ho hg hb hd
  go_wp2_with fail
  go_ret
  exact ⟨q, d, ys, rfl, HO.out.1, HO.out.2.1, HO.out.2.2⟩
theorem keyOf_any (A : Option Addr) (c : Nat) (xs : List UInt8) (w : World) (hx : Rd w w.heap.size A (xs.map bv)) (hl : xs.length ≤ 1048576) :
    Calls Try.prog 57 #[.slice A xs.length c] w fun e w' => ∃ x ∈ drawnKeys, e = .returned (.string (bs x)) ∧ Below w.heap.size w w' := by
  have HX := Lib.hid hx
  clear hx
  go_enter Try.func57, Try.ntmps57
  go_wp2_with fail
  refine (source_any A c xs _ HX.out hl).mono ?_
  rintro e w1 ⟨rfl, hs, hb⟩
  have hsz := hb.size
  have HS := Lib.hid hs
  clear hs
  go_wp2_with fail
  refine (key_any w.heap.size 0 _ HS.out (by omega)).mono ?_
  rintro e w2 ⟨x, hxm, rfl, _, hg⟩
  have HO := Lib.hid (And.intro hxm (hb.trans (below_grown (some w.heap.size) hg hsz (fun k e => by injection e; omega))))
  clear hg hb hxm
  go_wp2_with fail
  go_ret
  exact ⟨x, HO.out.1, rfl, HO.out.2⟩
/-- pairs and a key that may be asked -/
structure Askd (l : List Pr) (k : ByteArray) : Prop where
  len : l.length ≤ 59
  rise : Rise l
  fine : ∀ p ∈ l, pairB p = true
  key : withinB k.size 1 30 = true
theorem pairB_sz {p : Pr} (h : pairB p = true) : PSz p := by
  simp only [pairB, Bool.and_eq_true, decide_eq_true_eq] at h
  exact ⟨by omega, by omega⟩
theorem withinB_le {n a b : Nat} (h : withinB n a b = true) : n ≤ b := by
  simp [withinB] at h
  omega
theorem Askd.sz {l : List Pr} {k : ByteArray} (h : Askd l k) : ∀ p ∈ l, PSz p := fun p hp => pairB_sz (h.fine p hp)
theorem Askd.ask {l : List Pr} {k : ByteArray} (h : Askd l k) : askM l k = 0 := by
  have h1 := h.len
  have h2 : k.size ≤ 30 := withinB_le h.key
  unfold askM
  rw [if_neg (by omega), if_neg (by rw [okP_of (by omega) h.rise h.fine]; simp), if_neg (by rw [h.key]; simp)]
theorem Askd.k30 {l : List Pr} {k : ByteArray} (h : Askd l k) : k.size ≤ 30 := withinB_le h.key
set_option maxRecDepth 100000 in
theorem pairGet_any (A : Option Addr) (c : Nat) (l : List Pr) (k : ByteArray) (w : World) (ha : Askd l k) (hx : Rd w w.heap.size A (flat encP l)) :
    Calls Try.prog 60 #[.slice A l.length c, .string k] w fun e w' => e = .returned (.tuple #[.string (if hitP l k then valP l k else .empty), .int .i64 (if hitP l k then 0 else 5)]) ∧ Below w.heap.size w w' := by
  have hl := ha.len
  have hk := ha.k30
  have HC := Lib.hid (askedPairs_any A c l k w hx (by omega) ha.sz (by omega))
  rw [ha.ask] at HC
  have HX := Lib.hid hx
  have HR := Lib.hid ha.rise
  clear hx ha
  obtain ⟨I, hI⟩ : ∃ I, I = atP l k := ⟨_, rfl⟩
  cases hh : hitP l k with
  | true =>
    obtain ⟨hlt, hkey⟩ := mem_of_hit hh
    have hv : ∀ h : I < l.length, l[I].2 = valP l k := by
      subst hI
      intro h
      rw [valP, dif_pos h]
    rw [← hI] at hlt
    have HV := Lib.hid hv
    have HI := Lib.hid hI
    have HH := Lib.hid hh
    clear hkey hv hI hh
    go_enter Try.func60, Try.ntmps60
    go_wp2_with fail
    refine HC.out.mono ?_
    rintro e w1 ⟨rfl, hb1⟩
    have HX1 := Lib.hid (HX.out.next hb1)
    have HB1 := Lib.hid hb1
    clear hb1
    go_wp2_with fail
    refine (pairAt_any A c l k _ HX1.out (by omega) HR.out).mono ?_
    rw [← HI.out, HH.out]
    rintro e w2 ⟨rfl, hb2⟩
    obtain ⟨ad, rfl, hbl, hca, hcb⟩ := (HX1.out.next hb2).pr hlt
    rw [HV.out] at hcb
    have HB2 := Lib.hid (below_after HB1.out hb2)
    clear hb2
    go_wp2_with fail
    go_ret2
    exact ⟨rfl, HB2.out⟩
  | false =>
    have HI := Lib.hid hI
    have HH := Lib.hid hh
    clear hI hh
    go_enter Try.func60, Try.ntmps60
    go_wp2_with fail
    refine HC.out.mono ?_
    rintro e w1 ⟨rfl, hb1⟩
    have HX1 := Lib.hid (HX.out.next hb1)
    have HB1 := Lib.hid hb1
    clear hb1
    go_wp2_with fail
    refine (pairAt_any A c l k _ HX1.out (by omega) HR.out).mono ?_
    rw [← HI.out, HH.out]
    rintro e w2 ⟨rfl, hb2⟩
    have HB2 := Lib.hid (below_after HB1.out hb2)
    clear hb2
    go_wp2_with fail
    go_ret2
    exact ⟨rfl, HB2.out⟩
def MadeT (l : List Pr) (code : Int) (w : World) (e : Ending) (w' : World) : Prop := ∃ v, e = .returned (.tuple #[v, .int .i64 code]) ∧ w'.ownsRow w.heap.size 82 2 v l.length (flat encP l) ∧ Below w.heap.size w w'
set_option maxRecDepth 100000 in
theorem pairPut_any (A : Option Addr) (c : Nat) (l : List Pr) (k x : ByteArray) (w : World) (ha : Askd l k) (hn : A = none → c = 0) (hv : x.size ≤ 90) (hx : Rd w w.heap.size A (flat encP l)) :
    Calls Try.prog 58 #[.slice A l.length c, .string k, .string x] w (MadeT (putP l k x) 0 w) := by
  have hl := ha.len
  have hk := ha.k30
  have HC := Lib.hid (askedPairs_any A c l k w hx (by omega) ha.sz (by omega))
  rw [ha.ask] at HC
  have HX := Lib.hid hx
  have HR := Lib.hid ha.rise
  have HN := Lib.hid hn
  clear hx ha hn
  have hle : ((l.length : Int) == 60) = false := by rw [beq_eq_false_iff_ne]; omega
  cases hh : hitP l k
  all_goals
    have HH := Lib.hid hh
    clear hh
    go_enter Try.func58, Try.ntmps58
    go_wp2_with fail
    refine HC.out.mono ?_
    rintro e w1 ⟨rfl, hb1⟩
    have HX1 := Lib.hid (HX.out.next hb1)
    have HB1 := Lib.hid hb1
    clear hb1
    go_wp2_with fail
    refine (clone_any A c l _ HX1.out (by omega) HN.out).mono ?_
    rintro e w2 ⟨v2, rfl, ho2, hb2⟩
    have HX2 := Lib.hid (HX1.out.next hb2)
    have HB2 := Lib.hid (below_after HB1.out hb2)
    have hsz := HB1.out.size
    have HO2 := Lib.hid (own_mono ho2 hsz)
    clear hb2 ho2
    go_wp2_with fail
    refine (pairAt_any A c l k _ HX2.out (by omega) HR.out).mono ?_
    rw [HH.out]
    rintro e w3 ⟨rfl, hb3⟩
    have HO3 := Lib.hid (own_below HO2.out hb3)
    have HB3 := Lib.hid (below_after HB2.out hb3)
    clear hb3
    go_wp2_with fail
    refine (putPair_any w.heap.size v2 l k x _ HO3.out HR.out (by omega) HB3.out.size).mono ?_
    rintro e w4 ⟨v4, rfl, ho4, hg4⟩
    have HO4 := Lib.hid ho4
    have HB4 := Lib.hid (HB3.out.grown hg4 HB3.out.size (fun q hq => (HO3.out.lt q hq).1))
    clear ho4 hg4
    go_wp2_with fail
    go_ret2
    exact ⟨_, rfl, HO4.out, HB4.out⟩
set_option maxRecDepth 100000 in
theorem pairPutS_any (g c : Nat) (l : List Pr) (k x : ByteArray) (w : World) (ha : Askd l k) (hc : l.length ≤ c) (hv : x.size ≤ 90) (hx : Rd w w.heap.size (some ⟨g, 0, none⟩) (flat encP l)) :
    Calls Try.prog 59 #[.slice (some ⟨g, 0, none⟩) l.length c, .string k, .string x] w (MadeT (putP l k x) 0 w) := by
  have hl := ha.len
  have hk := ha.k30
  have HC := Lib.hid (l01Ask_any (some ⟨g, 0, none⟩) c l k w hx (by omega) ha.sz (by omega))
  rw [ha.ask] at HC
  have HX := Lib.hid hx
  have hpl := len_putP l k x
  clear hx ha
  go_enter Try.func59, Try.ntmps59
  go_wp2_with fail
  refine HC.out.mono ?_
  rintro e w1 ⟨rfl, hb1⟩
  have HX1 := Lib.hid (HX.out.next hb1)
  have HB1 := Lib.hid hb1
  clear hb1
  go_wp2_with fail
  refine (l01Put_any g c l k x _ HX1.out (by omega) hc).mono ?_
  rintro e w2 ⟨v2, rfl, ho2, hb2⟩
  obtain ⟨q, d, rfl, _⟩ := own_some ho2 (by unfold putP; simp; omega)
  have HB2 := Lib.hid (below_after HB1.out hb2)
  have hsz := HB1.out.size
  have HO2 := Lib.hid (own_mono ho2 hsz)
  have hpl2 : (putP l k x).length ≤ 60 := by omega
  clear ho2 hb2 hpl
  go_wp2_with fail
  go_ret2
  exact ⟨_, rfl, HO2.out, HB2.out⟩
set_option maxRecDepth 100000 in
theorem pairDrop_any (A : Option Addr) (c : Nat) (l : List Pr) (k : ByteArray) (w : World) (ha : Askd l k) (hh : hitP l k = true) (hn : A = none → c = 0) (hx : Rd w w.heap.size A (flat encP l)) :
    Calls Try.prog 61 #[.slice A l.length c, .string k] w (MadeT (dropP l k) 0 w) := by
  have hl := ha.len
  have hk := ha.k30
  have HC := Lib.hid (askedPairs_any A c l k w hx (by omega) ha.sz (by omega))
  rw [ha.ask] at HC
  have HX := Lib.hid hx
  have HR := Lib.hid ha.rise
  have HN := Lib.hid hn
  have HH := Lib.hid hh
  clear hx ha hn hh
  go_enter Try.func61, Try.ntmps61
  go_wp2_with fail
  refine HC.out.mono ?_
  rintro e w1 ⟨rfl, hb1⟩
  have HX1 := Lib.hid (HX.out.next hb1)
  have HB1 := Lib.hid hb1
  clear hb1
  go_wp2_with fail
  refine (clone_any A c l _ HX1.out (by omega) HN.out).mono ?_
  rintro e w2 ⟨v2, rfl, ho2, hb2⟩
  have HX2 := Lib.hid (HX1.out.next hb2)
  have HB2 := Lib.hid (below_after HB1.out hb2)
  have hsz := HB1.out.size
  have HO2 := Lib.hid (own_mono ho2 hsz)
  clear hb2 ho2
  go_wp2_with fail
  refine (pairAt_any A c l k _ HX2.out (by omega) HR.out).mono ?_
  rw [HH.out]
  rintro e w3 ⟨rfl, hb3⟩
  have HO3 := Lib.hid (own_below HO2.out hb3)
  have HB3 := Lib.hid (below_after HB2.out hb3)
  clear hb3
  go_wp2_with fail
  refine (dropPair_any w.heap.size v2 l k _ HO3.out HR.out (by omega) HB3.out.size).mono ?_
  rintro e w4 ⟨v4, rfl, ho4, hg4⟩
  have HO4 := Lib.hid ho4
  have HB4 := Lib.hid (HB3.out.grown hg4 HB3.out.size (fun q hq => (HO3.out.lt q hq).1))
  clear ho4 hg4
  go_wp2_with fail
  go_ret2
  exact ⟨_, rfl, HO4.out, HB4.out⟩
set_option maxRecDepth 100000 in
theorem pairsUnder_any (A : Option Addr) (c : Nat) (l : List Pr) (k : ByteArray) (w : World) (ha : Askd l k) (hn : A = none → c = 0) (hx : Rd w w.heap.size A (flat encP l)) :
    Calls Try.prog 62 #[.slice A l.length c, .string k] w (MadeT (l.filter (keepK k)) 0 w) := by
  have hl := ha.len
  have hk := ha.k30
  have hb0 : Below w.heap.size w (w.alloc (.cells #[.string k] 9)) := by repeat (first | exact Below.refl _ _ | assumption | refine Below.drew ?_ | refine below_drewN ?_ _ | refine Below.setCell ?_ (by first | exact Nat.le_refl _ | exact Below.size (by assumption) | (simp; done) | (simp; omega) | omega) _ | refine Below.alloc ?_ (by first | exact Nat.le_refl _ | exact Below.size (by assumption) | (simp; done) | (simp; omega) | omega) _)
  have HX := Lib.hid (hx.next hb0)
  have HC := Lib.hid (implPairsOK_any A c l _ HX.out (by omega) ha.sz)
  rw [okP_of (by omega) ha.rise ha.fine] at HC
  have HN := Lib.hid hn
  have HB0 := Lib.hid hb0
  have hck : (w.alloc (.cells #[.string k] 9)).cell? ⟨w.heap.size, 0, none⟩ = some (.string k) := by rw [cell_of_row _ _ 0 _ _ _ (heap_alloc_new _ _)]; rfl
  have HK := Lib.hid hck
  clear hx ha hn hb0
  go_enter Try.func62, Try.ntmps62
  go_wp2_with fail
  refine HC.out.mono ?_
  rintro e w1 ⟨rfl, hb1⟩
  have HX1 := Lib.hid (HX.out.next hb1)
  have HB1 := Lib.hid (HB0.out.trans (hb1.mono (by simp)))
  have HK1 := Lib.hid ((hb1.cell (p := ⟨w.heap.size, 0, none⟩) (by simp)).trans HK.out)
  have hs1 : w.heap.size < w1.heap.size := by have := hb1.size; simp at this; omega
  clear hb1 hck
  go_wp2_with fail
  refine (clone_any A c l _ HX1.out (by omega) HN.out).mono ?_
  rintro e w2 ⟨v2, rfl, ho2, hb2⟩
  have HB2 := Lib.hid (HB1.out.trans (hb2.mono (Nat.le_of_lt hs1)))
  have HK2 := Lib.hid ((hb2.cell (p := ⟨w.heap.size, 0, none⟩) hs1).trans HK1.out)
  have hs2 : w1.heap.size ≤ w2.heap.size := hb2.size
  have HO2 := Lib.hid ho2
  clear hb2 ho2
  go_wp2_with fail
  refine (deleteUnder_any w1.heap.size v2 l w.heap.size k _ HO2.out (by omega) hs2 HK2.out hs1).mono ?_
  rintro e w4 ⟨v4, rfl, ho4, hg4⟩
  have HO4 := Lib.hid (own_mono ho4 (Nat.le_of_lt hs1))
  have HB4 := Lib.hid (HB2.out.grown hg4 HB2.out.size (fun q hq => by have := (HO2.out.lt q hq).1; omega))
  clear ho4 hg4
  go_wp2_with fail
  go_ret2
  exact ⟨_, rfl, HO4.out, HB4.out⟩
end Go.Proofs.Ytlfnpnkpjdmonaa
