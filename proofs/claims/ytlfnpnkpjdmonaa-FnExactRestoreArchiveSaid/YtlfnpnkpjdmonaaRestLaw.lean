import Derived.Test.YtlfnpnkpjdmonaaArch
set_option linter.unusedVariables false
set_option linter.unusedSimpArgs false
namespace Go.Proofs.Ytlfnpnkpjdmonaa
open Go.RowKit

/-! ### plain: what restoring an archive comes to -/
def Bq.bk (q : Bq) : Bk := ⟨q.f, q.t, q.ch, none, q.ds, 0, q.sm⟩
noncomputable def readsA : List Bq → List ByteArray → List Bq × Int
  | acc, [] => (acc, 0)
  | acc, x :: xs => if 65536 < x.size then ([], 2) else if (readM x.data.toList).2 = 0 then readsA (acc ++ [(readM x.data.toList).1]) xs else ([], (readM x.data.toList).2)
noncomputable def restM (xs : List ByteArray) : List Pr × Int :=
  if 4096 < xs.length then ([], 2) else if 20 < xs.length then ([], 6) else if (readsA [] xs).2 = 0 then repA [] ⟨#[]⟩ 0 ((readsA [] xs).1.map Bq.bk) else ([], (readsA [] xs).2)
theorem bk_same {m n : Bk} (h : m.data = n.data) : m.f = n.f ∧ m.t = n.t ∧ m.ch = n.ch ∧ m.ds = n.ds ∧ m.sm = n.sm := by
  simpa [Bk.data] using h
theorem link_data {m n : Bk} (h : m.data = n.data) : m.link = n.link := by
  obtain ⟨h1, h2, h3, h4, h5⟩ := bk_same h
  unfold Bk.link
  rw [h1, h2, h3, h4, h5]
theorem repR_data {l : List Pr} {last : ByteArray} {ch : Int} {m n : Bk} (h : m.data = n.data) : repR l last ch m = repR l last ch n := by
  obtain ⟨h1, h2, h3, h4, h5⟩ := bk_same h
  unfold repR
  rw [h1, h3, h4, h5]
theorem repA_data : ∀ {ys zs : List Bk} (l : List Pr) (last : ByteArray) (ch : Int), ys.map Bk.data = zs.map Bk.data → repA l last ch ys = repA l last ch zs
  | [], [], _, _, _, _ => rfl
  | [], z :: zs, _, _, _, h => by simp at h
  | y :: ys, [], _, _, _, h => by simp at h
  | y :: ys, z :: zs, l, last, ch, h => by
    simp only [List.map_cons, List.cons.injEq] at h
    rw [repA, repA, repR_data h.1, repA_data _ _ _ h.2, link_data h.1, (bk_same h.1).2.1]
theorem readM_ok {l : List UInt8} (h : (readM l).2 = 0) : (readM l).1.ok = true := by
  unfold readM at h ⊢
  cases hp : P0of l with
  | none => rw [hp] at h; exact absurd h (by simp [finM])
  | some m =>
    rw [hp] at h
    simp only [finM] at h ⊢
    split at h
    · rename_i hok
      rw [if_pos hok]
      split at h
      · rename_i hlk
        rw [if_pos hlk]
        exact hok
      · exact absurd h (by simp)
    · exact absurd h (by simp)
theorem bkR_read {y : Bk} {q : Bq} (h : y.data = q.bk.data) (hq : q.ok = true) : BkR y := by
  refine Bk.ok_r ?_
  obtain ⟨h1, h2, h3, h4, h5⟩ := bk_same h
  unfold Bk.ok
  rw [h1, h2, h3, h4, h5]
  exact hq
theorem reads_step {acc : List Bq} {xs : List ByteArray} {k : Nat} (h : k < xs.length) : readsA acc (xs.drop k) = if 65536 < xs[k].size then ([], 2) else if (readM xs[k].data.toList).2 = 0 then readsA (acc ++ [(readM xs[k].data.toList).1]) (xs.drop (k + 1)) else ([], (readM xs[k].data.toList).2) := by
  rw [List.drop_eq_getElem_cons h, readsA]
/-- the backups that were read: their data, in memory of the call's own -/
structure BsIn (w wr : World) (v : Value) (ys : List Bk) (qs : List Bq) : Prop where
  own : wr.ownsRow w.heap.size 86 5 v ys.length (flat encBk ys)
  rows : ∀ y ∈ ys, wr.ownsRow w.heap.size 145 5 y.row y.ds.length (flat encD y.ds)
  same : ys.map Bk.data = qs.map fun q => q.bk.data
  ok : ∀ q ∈ qs, q.ok = true
  below : Below w.heap.size w wr
theorem BsIn.len {w wr : World} {v : Value} {ys : List Bk} {qs : List Bq} (h : BsIn w wr v ys qs) : ys.length = qs.length := by
  have := congrArg List.length h.same
  simpa using this
theorem BsIn.old {w wr w' : World} {v : Value} {ys : List Bk} {qs : List Bq} (h : BsIn w wr v ys qs) (hb : Below wr.heap.size wr w') : BsIn w w' v ys qs :=
  ⟨own_below h.own hb, fun y hy => own_below (h.rows y hy) hb, h.same, h.ok, below_after h.below hb⟩
theorem BsIn.good {w wr : World} {v : Value} {ys : List Bk} {qs : List Bq} (h : BsIn w wr v ys qs) : ∀ y ∈ ys, BkR y := by
  intro y hy
  have h1 : y.data ∈ ys.map Bk.data := List.mem_map_of_mem hy
  rw [h.same] at h1
  obtain ⟨q, hq, e⟩ := List.mem_map.1 h1
  exact bkR_read e.symm (h.ok q hq)
end Go.Proofs.Ytlfnpnkpjdmonaa
namespace Go.Proofs.Ytlfnpnkpjdmonaa
open Go.RowKit

/-! ### restoring an archive: the program -/
theorem elBackup : ElT Try.prog 83 86 5 72 := by
  obtain ⟨i0, h1, h2, h3, h4⟩ := info_parts infoBackup
  exact ⟨i0, _, Try.underlying83, h1, h2, h3, h4, by simp [Value.cells], by omega⟩
theorem BsIn.nil (w : World) : BsIn w (w.alloc (.cells #[] 86)) (.slice (some ⟨w.heap.size, 0, none⟩) 0 0) [] [] :=
  ⟨own_empty_at (Nat.le_refl _) (heap_alloc_new _ _), by simp, rfl, by simp, (Below.refl _ _).alloc (Nat.le_refl _) _⟩
theorem BsIn.push {w wr w3 : World} {v v' : Value} {ys : List Bk} {qs : List Bq} {y : Bk} {q : Bq} (h : BsIn w wr v ys qs) (hr : wr.ownsRow w.heap.size 145 5 y.row y.ds.length (flat encD y.ds)) (hd : y.data = q.bk.data) (hq : q.ok = true)
    (hp : Pushed w.heap.size 86 5 v (ys.length + 1) (flat encBk ys ++ encBk y) wr v' w3) : BsIn w w3 v' (ys ++ [y]) (qs ++ [q]) := by
  have hkeep : ∀ {u : Value} {n : Nat} {xs : List Value}, wr.ownsRow w.heap.size 145 5 u n xs → w3.ownsRow w.heap.size 145 5 u n xs := fun {u n xs} ho => by
    refine ho.kept hp.2 ?_
    by_cases hu : u.ownBlock = none
    · exact .inl hu
    · refine .inr fun e => ?_
      rcases h.own.2 with ⟨hv, _⟩ | ⟨g', cap, cur, hv, _, hg, _⟩
      · subst hv; exact hu e
      · subst hv; exact own_ne_blk ho hg (by decide) e
  refine ⟨?_, fun z hz => ?_, ?_, fun z hz => ?_, hp.below h.own h.below h.below.size⟩
  · rw [flat_append, List.length_append, flat_cons, flat_nil, List.append_nil]
    exact hp.1
  · rcases List.mem_append.1 hz with hz | hz
    · exact hkeep (h.rows z hz)
    · rw [List.mem_singleton.1 hz]; exact hkeep hr
  · rw [List.map_append, List.map_append, h.same]; simp [hd]
  · rcases List.mem_append.1 hz with hz | hz
    · exact h.ok z hz
    · rw [List.mem_singleton.1 hz]; exact hq
theorem bk_cells {w : World} {g : Nat} {a0 a1 a2 a3 a4 : Value} {T : TypeId} (h : w.heap[g]? = some (.cells #[a0, a1, a2, a3, a4] T (0, 0))) : w.cell? ⟨g, 0, none⟩ = some a0 ∧ w.cell? ⟨g, 1, none⟩ = some a1 ∧ w.cell? ⟨g, 2, none⟩ = some a2 ∧ w.cell? ⟨g, 3, none⟩ = some a3 ∧ w.cell? ⟨g, 4, none⟩ = some a4 :=
  ⟨by rw [cell_of_row w _ 0 _ _ _ h]; rfl, by rw [cell_of_row w _ 1 _ _ _ h]; rfl, by rw [cell_of_row w _ 2 _ _ _ h]; rfl, by rw [cell_of_row w _ 3 _ _ _ h]; rfl, by rw [cell_of_row w _ 4 _ _ _ h]; rfl⟩
def RestPost (q : List Pr × Int) (w : World) (e : Ending) (w' : World) : Prop := MadeT q.1 q.2 w e w'
theorem rest_bad {q : List Pr × Int} {w w' : World} {n : Int} {v : Value} (h : q = ([], n)) (ho : w'.ownsRow w.heap.size 82 2 v 0 []) (hb : Below w.heap.size w w') : RestPost q w (.returned (.tuple #[v, .int .i64 n])) w' := by
  subst h
  exact ⟨v, rfl, ho, hb⟩
set_option maxRecDepth 100000 in
set_option maxHeartbeats 4000000 in
theorem implRest_any (A : Option Addr) (c : Nat) (xs : List ByteArray) (w : World) (hx : Rd w w.heap.size A (xs.map Value.string)) (hl : xs.length ≤ 17592186044416) (hs : ∀ s ∈ xs, s.size ≤ 1048576) :
    Calls Try.prog 98 #[.slice A xs.length c] w (RestPost (restM xs) w) := by
  by_cases h1 : 4096 < xs.length
  · have HN : Hid (restM xs = ([], 2)) := if_pos h1
    go_enter Try.func98, Try.ntmps98
    go_wp2_with fail
    go_ret2
    exact rest_bad HN.out (own_nilRow _ _ _ _) (Below.refl _ _)
  by_cases h2 : 20 < xs.length
  · have HN : Hid (restM xs = ([], 6)) := (if_neg h1).trans (if_pos h2)
    go_enter Try.func98, Try.ntmps98
    go_wp2_with fail
    go_ret2
    exact rest_bad HN.out (own_nilRow _ _ _ _) (Below.refl _ _)
  have HQ : Hid (restM xs = if (readsA [] xs).2 = 0 then repA [] ⟨#[]⟩ 0 ((readsA [] xs).1.map Bq.bk) else ([], (readsA [] xs).2)) := (if_neg h1).trans (if_neg h2)
  have HX := Lib.hid hx
  have HS := Lib.hid hs
  have H0 := Lib.hid (BsIn.nil w)
  clear hx hs
  go_enter Try.func98, Try.ntmps98
  go_wp2_with fail
  go_loopw [4, 20] (fun v i wr => ∃ (k : Nat) (ys : List Bk) (qs : List Bq), k ≤ xs.length ∧ i = .int .i64 k ∧ ys.length = k ∧ readsA [] xs = readsA qs (xs.drop k) ∧ BsIn w wr v ys qs) (fun _ i _ => xs.length - (intOf i).toNat)
  case atStart => exact ⟨0, [], [], Nat.zero_le _, rfl, rfl, rfl, H0.out⟩
  case round =>
    obtain ⟨k, ys, qs, hk, rfl, hyl, hrd, hin⟩ := hrel
    have HRD := Lib.hid hrd
    have HIN := Lib.hid hin
    have HYL := Lib.hid hyl
    obtain ⟨A0, n0, rfl, _⟩ := own_form hin.own
    clear hrd hyl H0
    by_cases hlt : k < xs.length
    · obtain ⟨ad, rfl, hbl, h0⟩ := (HX.out.below hin.below).at_ (map_at (f := Value.string) hlt)
      have HST := Lib.hid (reads_step (acc := qs) hlt)
      have hsz := HS.out _ (List.getElem_mem hlt)
      obtain ⟨x, hx⟩ : ∃ x, x = xs[k] := ⟨_, rfl⟩
      rw [← hx] at h0 HST hsz
      clear hx hin
      by_cases hbig : 65536 < x.size
      · have HN : Hid (restM xs = ([], 2)) := by show restM xs = _; rw [HQ.out, HRD.out, HST.out, if_pos hbig]; rfl
        have HB := Lib.hid HIN.out.below
        go_wp2_with fail
        go_ret2
        exact rest_bad HN.out (own_nilRow _ _ _ _) HB.out
      · have HST2 : Hid (readsA qs (xs.drop k) = if (readM x.data.toList).2 = 0 then readsA (qs ++ [(readM x.data.toList).1]) (xs.drop (k + 1)) else ([], (readM x.data.toList).2)) := HST.out.trans (if_neg hbig)
        obtain ⟨l, hlx⟩ : ∃ l, x = bs l := ⟨x.data.toList, by cases x; rfl⟩
        subst hlx
        have hll : l.length ≤ 65536 := by simp [ByteArray.size] at hbig; omega
        have HRB := Lib.hid (fun W => readBackup_any l W hll)
        have HDS := Lib.hid (rdAll_ds l)
        have HOKQ := Lib.hid (readM_ok (l := l))
        rw [show (bs l).data.toList = l from rfl] at HST2
        have hra : rdAll l = readM l := if_neg (by omega)
        rw [hra] at HDS
        clear hra HST
        generalize readM l = q at HST2 HRB HDS HOKQ
        obtain ⟨q, er⟩ := q
        go_wp2_with fail
        refine (HRB.out wr).mono ?_
        rintro e w2 ⟨D, dc, rfl, ho2, hb2⟩
        have HR2 := Lib.hid ho2
        have HB2 := Lib.hid hb2
        have HIN2 := Lib.hid (HIN.out.old hb2)
        have hz2 := hb2.size
        clear ho2 hb2
        obtain ⟨w3, hw3⟩ : ∃ W : World, W = w2.alloc (.cells #[.string q.f, .string q.t, .int .i64 q.ch, .slice D q.ds.length dc, .int .i64 q.sm] 86) := ⟨_, rfl⟩
        have hb3 : Below w2.heap.size w2 w3 := by rw [hw3]; exact (Below.refl _ _).alloc (Nat.le_refl _) _
        have hbx : w3.heap[w2.heap.size]? = some (.cells #[.string q.f, .string q.t, .int .i64 q.ch, .slice D q.ds.length dc, .int .i64 q.sm] 86 (0, 0)) := by rw [hw3]; exact heap_alloc_new _ _
        have HR3 := Lib.hid (own_below HR2.out hb3)
        have HIN3 := Lib.hid (HIN2.out.old hb3)
        have hz3 : w2.heap.size < w3.heap.size := by rw [hw3]; simp
        by_cases her : er = 0
        · subst her
          have HOK := Lib.hid (HOKQ.out rfl)
          have HST3 : Hid (readsA [] xs = readsA (qs ++ [q]) (xs.drop (k + 1))) := HRD.out.trans (HST2.out.trans (if_pos rfl))
          obtain ⟨k0, k1, k2, k3, k4⟩ := bk_cells hbx
          rw [hw3] at k0 k1 k2 k3 k4
          have HW3 := Lib.hid hw3
          have HOW : Hid ((w2.alloc (.cells #[.string q.f, .string q.t, .int .i64 q.ch, .slice D q.ds.length dc, .int .i64 q.sm] 86)).ownsRow w.heap.size 86 5 (.slice A0 ys.length n0) ys.length (flat encBk ys)) := by rw [← hw3]; exact HIN3.out.own
          have hzz : w.heap.size ≤ (w2.alloc (.cells #[.string q.f, .string q.t, .int .i64 q.ch, .slice D q.ds.length dc, .int .i64 q.sm] 86)).heap.size := by rw [← hw3]; have := HIN3.out.below.size; omega
          clear hw3 hb3 hbx HRB HOKQ HST2
          go_wp2_with (at_builtin; refine push_one elBackup rfl _ _ rfl w.heap.size (.slice A0 ys.length n0) ys.length (flat encBk ys) rfl HOW.out [.string q.f, .string q.t, .int .i64 q.ch, .slice D q.ds.length dc, .int .i64 q.sm] _ rfl (by rw [World.size_alloc]; rfl) rfl (by simp [Value.oneCell']) (by have := HYL.out; simp only [maxLen]; omega) (by have := HYL.out; omega) hzz ?_)
          intro v4 w4 hp
          rw [← HW3.out] at hp
          have HIN4 := Lib.hid (HIN3.out.push (y := ⟨q.f, q.t, q.ch, D, q.ds, dc, q.sm⟩) (q := q) (own_mono HR3.out (by have := HIN.out.below.size; omega)) rfl HOK.out hp)
          clear hp
          go_wp2_with fail
          go_roundw
          case rel => exact ⟨k + 1, ys ++ [⟨q.f, q.t, q.ch, D, q.ds, dc, q.sm⟩], qs ++ [q], hlt, by go_num, by have := HYL.out; simp [this], HST3.out, HIN4.out⟩
          case measure => simp [intOf]; omega
        · have hne : (er == 0) = false := by simpa using her
          have HN : Hid (restM xs = ([], er)) := by show restM xs = _; rw [HQ.out, HRD.out, HST2.out, if_neg her]; exact if_neg her
          have HB := Lib.hid HIN3.out.below
          have HW3 := Lib.hid hw3
          clear hw3 hb3 hbx HRB HOKQ HST2
          go_wp2_with fail
          rw [← HW3.out]
          go_ret2
          exact rest_bad HN.out (own_nilRow _ _ _ _) HB.out
    · have hkk : k = xs.length := by omega
      have HE : Hid (readsA [] xs = (qs, 0)) := by show readsA [] xs = _; rw [HRD.out, hkk, List.drop_length]; rfl
      have HRES : Hid (restM xs = repA [] ⟨#[]⟩ 0 ys) := by
        show restM xs = _
        rw [HQ.out, HE.out, if_pos rfl]
        exact repA_data _ _ _ (by rw [HIN.out.same, List.map_map]; rfl)
      have HC := Lib.hid (replayAll_any A0 n0 ys wr (Rd.own HIN.out.own) (fun m hm => Rd.own (HIN.out.rows m hm)) HIN.out.good (by have := HYL.out; omega))
      have HB := Lib.hid HIN.out.below
      clear hin
      go_wp2_with fail
      refine HC.out.mono ?_
      rintro e w2 ⟨v, rfl, ho, hb2⟩
      have HO := Lib.hid ho
      have HB2 := Lib.hid hb2
      clear ho hb2 HC
      go_wp2_with fail
      go_ret2
      show MadeT _ _ _ _ _
      rw [HRES.out]
      exact ⟨v, rfl, own_mono HO.out HB.out.size, below_after HB.out HB2.out⟩
end Go.Proofs.Ytlfnpnkpjdmonaa
namespace Go.Proofs.Ytlfnpnkpjdmonaa
open Go.RowKit

/-! ### differences laid on pairs: the reference -/
set_option maxRecDepth 100000 in
theorem l01Get_any (A : Option Addr) (c : Nat) (l : List Pr) (k : ByteArray) (w : World) (hx : Rd w w.heap.size A (flat encP l)) (hl : l.length ≤ 1048576) :
    Calls Try.prog 254 #[.slice A l.length c, .string k] w fun e w' => e = .returned (.tuple #[.string (if hitP l k = true then valP l k else ⟨#[]⟩), .bool (hitP l k)]) ∧ Below w.heap.size w w' := by
  have HC := Lib.hid (l01At_any A c l k w hx hl)
  cases hh : hitP l k with
  | true =>
    obtain ⟨hlt, hkey⟩ := mem_of_hit hh
    obtain ⟨ad, rfl, hbl, h1, h2⟩ := hx.pr hlt
    rw [hkey] at h1
    have hv : valP l k = l[atP l k].2 := by simp [valP, hlt]
    have HV := Lib.hid hv
    generalize l[atP l k].2 = x at h2 HV
    have hq : (k.toList == k.toList) = true := by simp
    clear hkey hh hx hv
    generalize atP l k = I at *
    go_enter Try.func254, Try.ntmps254
    go_wp2_with fail
    refine HC.out.mono ?_
    rintro e w1 ⟨rfl, rfl⟩
    go_wp2_with fail
    go_ret2
    refine ⟨?_, Below.refl _ _⟩
    rw [HV.out]
    rfl
  | false =>
    by_cases hlt : atP l k < l.length
    · obtain ⟨ad, rfl, hbl, h1, h2⟩ := hx.pr hlt
      have hne : l[atP l k].1 ≠ k := by
        have := hitP_eq l k
        rw [hh, dif_pos hlt] at this
        exact of_decide_eq_false this.symm
      obtain ⟨hq1, hq2⟩ := neL hne
      generalize l[atP l k] = p at *
      clear hne hx hh
      generalize atP l k = I at *
      go_enter Try.func254, Try.ntmps254
      go_wp2_with fail
      refine HC.out.mono ?_
      rintro e w1 ⟨rfl, rfl⟩
      go_wp2_with fail
      go_ret2
      exact ⟨rfl, Below.refl _ _⟩
    · clear hx hh
      generalize atP l k = I at *
      go_enter Try.func254, Try.ntmps254
      go_wp2_with fail
      refine HC.out.mono ?_
      rintro e w1 ⟨rfl, rfl⟩
      go_wp2_with fail
      go_ret2
      exact ⟨rfl, Below.refl _ _⟩
/-- new pairs, in memory that may be appended to -/
def MadeQ (l : List Pr) (w : World) (e : Ending) (w' : World) : Prop := ∃ g c, e = .returned (.slice (some ⟨g, 0, none⟩) l.length c) ∧ l.length ≤ c ∧ Rd w' w'.heap.size (some ⟨g, 0, none⟩) (flat encP l) ∧ Below w.heap.size w w'
theorem dropP_snoc {l : List Pr} {k : ByteArray} {i : Nat} (h : i < l.length) : dropP (l.take (i + 1)) k = dropP (l.take i) k ++ (if l[i].1 = k then [] else [l[i]]) := by
  unfold dropP
  rw [List.take_succ_eq_append_getElem h, List.filter_append]
  congr 1
  by_cases e : l[i].1 = k <;> simp [e]
set_option maxRecDepth 100000 in
set_option maxHeartbeats 1000000 in
theorem l01Drop_any (A : Option Addr) (c : Nat) (l : List Pr) (k : ByteArray) (w : World) (hx : Rd w w.heap.size A (flat encP l)) (hl : l.length ≤ 1048575) :
    Calls Try.prog 271 #[.slice A l.length c, .string k] w (MadeQ (dropP l k) w) := by
  have HX := Lib.hid hx
  have H0 : Hid ((w.alloc (.cells #[] 82)).ownsRow w.heap.size 82 2 (.slice (some ⟨w.heap.size, 0, none⟩) 0 0) 0 []) := own_empty_at (Nat.le_refl _) (heap_alloc_new _ _)
  have HB0 : Hid (Below w.heap.size w (w.alloc (.cells #[] 82))) := by show Below _ _ _; repeat (first | exact Below.refl _ _ | assumption | refine Below.drew ?_ | refine below_drewN ?_ _ | refine Below.setCell ?_ (by first | exact Nat.le_refl _ | exact Below.size (by assumption) | (simp; done) | (simp; omega) | omega) _ | refine Below.alloc ?_ (by first | exact Nat.le_refl _ | exact Below.size (by assumption) | (simp; done) | (simp; omega) | omega) _)
  clear hx
  go_enter Try.func271, Try.ntmps271
  go_wp2_with fail
  go_loopw [5, 6] (fun v i wr => ∃ (j g n0 : Nat), j ≤ l.length ∧ i = .int .i64 j ∧ v = .slice (some ⟨g, 0, none⟩) (dropP (l.take j) k).length n0 ∧ wr.ownsRow w.heap.size 82 2 v (dropP (l.take j) k).length (flat encP (dropP (l.take j) k)) ∧ Below w.heap.size w wr) (fun _ i _ => l.length - (intOf i).toNat)
  case atStart => exact ⟨0, w.heap.size, 0, Nat.zero_le _, rfl, rfl, H0.out, HB0.out⟩
  case round =>
    obtain ⟨j, g, n0, hj, rfl, rfl, ho, hb⟩ := hrel
    have HO := Lib.hid ho
    have HB := Lib.hid hb
    have hcap : (dropP (l.take j) k).length ≤ n0 := by
      obtain ⟨_, _, e, h⟩ := own_form ho
      cases e
      exact h
    have hdl : (dropP (l.take j) k).length ≤ j := by have := List.length_filter_le (fun p : Pr => decide (p.1 ≠ k)) (l.take j); rw [List.length_take] at this; unfold dropP; omega
    have HDL := Lib.hid hdl
    have hsw := hb.size
    clear ho hdl
    by_cases hlt : j < l.length
    · obtain ⟨ad, rfl, hbl, h1, h2⟩ := (HX.out.below hb).pr hlt
      have HST := Lib.hid (dropP_snoc (k := k) hlt)
      by_cases he : l[j].1 = k
      · rw [he] at h1
        have HE : Hid (dropP (l.take (j + 1)) k = dropP (l.take j) k) := by show _ = _; rw [HST.out, if_pos he, List.append_nil]
        have hq : (k.toList != k.toList) = false := by simp
        clear hb he HST
        go_wp2_with fail
        go_roundw
        case rel => exact ⟨j + 1, g, n0, hlt, by go_num, by rw [HE.out], by rw [HE.out]; exact HO.out, HB.out⟩
        case measure => simp [intOf]; omega
      · have HE : Hid (dropP (l.take (j + 1)) k = dropP (l.take j) k ++ [l[j]]) := by show _ = _; rw [HST.out, if_neg he]
        obtain ⟨hq1, hq2⟩ := neL he
        obtain ⟨p, hp⟩ : ∃ p, p = l[j] := ⟨_, rfl⟩
        rw [← hp] at h1 h2 HE hq1 hq2
        clear hb he HST hp
        go_wp2_with (at_builtin; refine push_one elPair rfl _ _ rfl w.heap.size (.slice (some ⟨g, 0, none⟩) (dropP (l.take j) k).length n0) (dropP (l.take j) k).length (flat encP (dropP (l.take j) k)) rfl HO.out [.string p.1, .string p.2] _ rfl rfl rfl (by simp [Value.oneCell']) (by have := HDL.out; simp only [maxLen]; omega) (by have := HDL.out; omega) hsw ?_)
        intro v4 w4 hp
        have hp2 : w4.ownsRow w.heap.size 82 2 v4 (dropP (l.take (j + 1)) k).length (flat encP (dropP (l.take (j + 1)) k)) := by rw [HE.out, flat_append, List.length_append, flat_cons, flat_nil, List.append_nil]; exact hp.1
        have HP := Lib.hid hp2
        have HB4 := Lib.hid (hp.below HO.out HB.out hsw)
        obtain ⟨g4, n4, rfl, _⟩ := own_some hp2 (by rw [HE.out]; simp)
        have HEL : Hid ((dropP (l.take (j + 1)) k).length = (dropP (l.take j) k).length + 1) := by show _ = _; rw [HE.out]; simp
        clear hp hp2
        go_wp2_with fail
        go_roundw
        case rel => exact ⟨j + 1, g4, n4, hlt, by go_num, rfl, HP.out, HB4.out⟩
        case measure => simp [intOf]; omega
    · have hjl : j = l.length := by omega
      subst hjl
      have e : dropP (l.take l.length) k = dropP l k := by rw [List.take_length]
      have HE := Lib.hid e
      clear e
      go_wp2_with fail
      go_ret
      rw [HE.out] at hcap
      exact ⟨g, n0, by rw [← HE.out]; rfl, hcap, by have h := Rd.own HO.out; rw [HE.out] at h; exact h, HB.out⟩
end Go.Proofs.Ytlfnpnkpjdmonaa
namespace Go.Proofs.Ytlfnpnkpjdmonaa
open Go.RowKit

theorem pairB_of {k v : ByteArray} (h : withinB k.size 1 30 = true) (hv : v.size ≤ 90) : pairB (k, v) = true := by
  simp only [withinB, Bool.and_eq_true, decide_eq_true_eq] at h
  unfold pairB
  simp only [Bool.and_eq_true, decide_eq_true_eq]
  omega
/-- what the reference's laying-on answers -/
def AppS (l : List Pr) (ds : List Df) (w : World) (e : Ending) (w' : World) : Prop := ∃ v, e = .returned (.tuple #[v, .int .i64 (appR l ds).2]) ∧ ((appR l ds).2 = 0 → ∃ g c, v = .slice (some ⟨g, 0, none⟩) (appR l ds).1.length c ∧ (appR l ds).1.length ≤ c ∧ Rd w' w'.heap.size (some ⟨g, 0, none⟩) (flat encP (appR l ds).1)) ∧ Below w.heap.size w w'
theorem apps_bad {l : List Pr} {ds : List Df} {q : List Pr × Int} {w w' : World} {v : Value} {n : Int} (h : appR l ds = q) (hq : q.2 = n) (hn : n ≠ 0) (hb : Below w.heap.size w w') : AppS l ds w (.returned (.tuple #[v, .int .i64 n])) w' := by
  subst hq h
  exact ⟨v, rfl, fun e => absurd e hn, hb⟩
set_option maxRecDepth 100000 in
set_option maxHeartbeats 4000000 in
theorem l05Apply_any (g0 c0 D dc : Nat) (l : List Pr) (A : Option Addr) (ds : List Df) (w : World) (hx : Rd w w.heap.size (some ⟨g0, 0, none⟩) (flat encP l)) (hc : l.length ≤ c0) (hy : Rd w w.heap.size A (flat encD ds)) (hl : l.length ≤ 60) (hd : ds.length ≤ 120) (hok : ∀ d ∈ ds, DOk d) :
    Calls Try.prog 258 #[.slice (some ⟨g0, 0, none⟩) l.length c0, .slice A ds.length dc] w (AppS l ds w) := by
  have HX := Lib.hid hx
  have HY := Lib.hid hy
  have HOK := Lib.hid hok
  clear hx hy hok
  go_enter Try.func258, Try.ntmps258
  go_wp2_with fail
  go_loopw [6, 7] (fun v x wr => ∃ (k g c : Nat) (cur : List Pr), x = .int .i64 k ∧ k ≤ ds.length ∧ v = .slice (some ⟨g, 0, none⟩) cur.length c ∧ cur.length ≤ c ∧ applyM cur (ds.drop k) = applyM l ds ∧ cur.length ≤ l.length + k ∧ Rd wr wr.heap.size (some ⟨g, 0, none⟩) (flat encP cur) ∧ Below w.heap.size w wr) (fun _ x _ => ds.length - (intOf x).toNat)
  case atStart => exact ⟨0, g0, c0, l, rfl, Nat.zero_le _, rfl, hc, rfl, by omega, HX.out, Below.refl _ _⟩
  case round =>
    obtain ⟨k, g, c, cur, rfl, hk, rfl, hcc, heq, hlc, ho, hb⟩ := hrel
    have HE := Lib.hid heq
    have HO := Lib.hid ho
    have HB := Lib.hid hb
    have hsw := hb.size
    clear heq ho
    by_cases hkl : k < ds.length
    · obtain ⟨ad, rfl, hla0, h0, h1, h2, h3, h4⟩ := (HY.out.next hb).df hkl
      have hdd := List.drop_eq_getElem_cons hkl
      have HDK : Hid (DOk ds[k]) := HOK.out _ (List.getElem_mem hkl)
      obtain ⟨d, hde⟩ : ∃ d, d = ds[k] := ⟨_, rfl⟩
      rw [← hde] at hdd h0 h1 h2 h3 h4 HDK
      obtain ⟨key, old, new, had, has⟩ := d
      have HDD := Lib.hid hdd
      obtain ⟨w1, hw1⟩ : ∃ W : World, W = wr.alloc (.cells #[.string key, .string old, .string new, .bool had, .bool has] 145) := ⟨_, rfl⟩
      have hb1 : Below wr.heap.size wr w1 := by rw [hw1]; exact (Below.refl _ _).alloc (Nat.le_refl _) _
      have hbx : w1.heap[wr.heap.size]? = some (.cells #[.string key, .string old, .string new, .bool had, .bool has] 145 (0, 0)) := by rw [hw1]; exact heap_alloc_new _ _
      have hs1 : wr.heap.size < w1.heap.size := by rw [hw1]; simp
      have HO1 := Lib.hid (HO.out.next hb1)
      have HB1 := Lib.hid (below_after hb hb1)
      have HBX := Lib.hid hbx
      have HW1 := Lib.hid hw1
      obtain ⟨k0, k1, k2, k3, k4⟩ := bk_cells hbx
      rw [hw1] at k0 k1 k2 k3 k4
      clear hde hdd hb hb1 hbx hw1
      go_wp2_with fail
      rw [← HW1.out]
      have HG0 := l01Get_any (some ⟨g, 0, none⟩) c cur key w1 HO1.out (by omega)
      have HFIT : Hid (fitsD cur ⟨key, old, new, had, has⟩ = ((hitP cur key == had) && !(hitP cur key && !decide ((if hitP cur key = true then valP cur key else ⟨#[]⟩) = old)))) := by
        show fitsD _ _ = _
        unfold fitsD
        cases hitP cur key <;> simp
      generalize (if hitP cur key = true then valP cur key else ⟨#[]⟩) = gv at HG0 HFIT
      generalize hitP cur key = hit at HG0 HFIT
      have HAP : Hid (applyM l ds = if fitsD cur ⟨key, old, new, had, has⟩ = true then applyM (layD cur ⟨key, old, new, had, has⟩) (ds.drop (k + 1)) else none) := by
        show _ = _
        rw [← HE.out, HDD.out, applyM]
      refine HG0.mono ?_
      rintro e w2 ⟨rfl, hb2⟩
      have HO2 := Lib.hid (HO1.out.next hb2)
      have HB2 := Lib.hid (below_after HB1.out hb2)
      have HBX2 := Lib.hid ((hb2.block _ hs1).trans HBX.out)
      have hs2 := hb2.size
      clear hb2 k0 k1 k2 k3 k4 h0 h1 h2 h3 h4 HG0
      obtain ⟨k0, k1, k2, k3, k4⟩ := bk_cells HBX2.out
      have hks : key.size ≤ 30 := withinB_le HDK.out.key
      have ho9 : old.size ≤ 90 := HDK.out.old
      have hn9 : new.size ≤ 90 := HDK.out.new
      have HPB : Hid (pairB (key, new) = true) := pairB_of HDK.out.key hn9
      go_wp2_with fail
      refine (l01Pair_any (key, new) w2 ⟨by simp only [maxLen]; omega, by simp only [maxLen]; omega⟩).mono ?_
      rw [HPB.out]
      rintro e w3 ⟨rfl, hb3⟩
      have HO3 := Lib.hid (HO2.out.next hb3)
      have HB3 := Lib.hid (below_after HB2.out hb3)
      have hbx3 := (hb3.block _ (by omega)).trans HBX2.out
      have hs3 := hb3.size
      clear hb3 k0 k1 k2 k3 k4 HBX HBX2 HW1
      obtain ⟨k0, k1, k2, k3, k4⟩ := bk_cells hbx3
      have h1 := HDK.out.one
      have h2 := HDK.out.noOld
      have h3 := HDK.out.noNew
      clear hbx3
      cases had <;> cases has
      · simp at h1
      · obtain rfl := h2 rfl
        clear h1 h2 h3
        cases hit with
        | true =>
          have HNF : Hid (appR l ds = (l, 18)) := by
            have h := HFIT.out
            show appR l ds = _
            refine appR_none ?_
            rw [HAP.out, if_neg]
            rw [h]
            simp
          clear HFIT HAP
          go_wp2_with fail
          go_ret2
          exact apps_bad HNF.out rfl (by decide) HB3.out
        | false =>
          have HOKF : Hid (applyM l ds = applyM (layD cur ⟨key, ⟨#[]⟩, new, false, true⟩) (ds.drop (k + 1))) := by
            have h := HFIT.out
            show applyM l ds = _
            rw [HAP.out, if_pos]
            rw [h]
            simp
          clear HFIT HAP
          go_wp2_with fail
          refine (l01Put_any g c cur key new w3 HO3.out (by omega) hcc).mono ?_
          rintro e w4 ⟨v4, rfl, ho4, hb4⟩
          have hpl : (putP cur key new).length ≤ cur.length + 1 := by rw [putP_len]; split <;> omega
          obtain ⟨g4, c4, rfl, hc4⟩ := own_some ho4 (by unfold putP; simp; omega)
          have HO4 := Lib.hid (Rd.own ho4)
          have HB4 := Lib.hid (below_after HB3.out hb4)
          clear ho4 hb4
          go_wp2_with fail
          go_roundw
          case rel => exact ⟨k + 1, g4, c4, putP cur key new, by go_num, hkl, rfl, hc4, HOKF.out.symm, by omega, HO4.out, HB4.out⟩
          case measure => simp [intOf]; omega
      · obtain rfl := h3 rfl
        clear h1 h2 h3
        cases hit with
        | false =>
          have HNF : Hid (appR l ds = (l, 18)) := by
            have h := HFIT.out
            show appR l ds = _
            refine appR_none ?_
            rw [HAP.out, if_neg]
            rw [h]
            simp
          clear HFIT HAP
          go_wp2_with fail
          go_ret2
          exact apps_bad HNF.out rfl (by decide) HB3.out
        | true =>
          by_cases hv : gv = old
          · subst hv
            have hq1 : (gv.toList != gv.toList) = false := by simp
            have HOKF : Hid (applyM l ds = applyM (layD cur ⟨key, gv, ⟨#[]⟩, true, false⟩) (ds.drop (k + 1))) := by
              have h := HFIT.out
              show applyM l ds = _
              rw [HAP.out, if_pos]
              rw [h]
              simp
            clear HFIT HAP
            go_wp2_with fail
            refine (l01Drop_any (some ⟨g, 0, none⟩) c cur key w3 HO3.out (by omega)).mono ?_
            rintro e w4 ⟨g4, c4, rfl, hc4, ho4, hb4⟩
            have hpl : (dropP cur key).length ≤ cur.length := List.length_filter_le _ _
            have HO4 := Lib.hid ho4
            have HB4 := Lib.hid (below_after HB3.out hb4)
            clear ho4 hb4
            go_wp2_with fail
            go_roundw
            case rel => exact ⟨k + 1, g4, c4, dropP cur key, by go_num, hkl, rfl, hc4, HOKF.out.symm, by omega, HO4.out, HB4.out⟩
            case measure => simp [intOf]; omega
          · obtain ⟨hq1, hq2⟩ := neL hv
            have HNF : Hid (appR l ds = (l, 18)) := by
              have h := HFIT.out
              show appR l ds = _
              refine appR_none ?_
              rw [HAP.out, if_neg]
              rw [h]
              simp [hv]
            clear HFIT HAP
            go_wp2_with fail
            go_ret2
            exact apps_bad HNF.out rfl (by decide) HB3.out
      · clear h1 h2 h3
        cases hit with
        | false =>
          have HNF : Hid (appR l ds = (l, 18)) := by
            have h := HFIT.out
            show appR l ds = _
            refine appR_none ?_
            rw [HAP.out, if_neg]
            rw [h]
            simp
          clear HFIT HAP
          go_wp2_with fail
          go_ret2
          exact apps_bad HNF.out rfl (by decide) HB3.out
        | true =>
          by_cases hv : gv = old
          · subst hv
            have hq1 : (gv.toList != gv.toList) = false := by simp
            have HOKF : Hid (applyM l ds = applyM (layD cur ⟨key, gv, new, true, true⟩) (ds.drop (k + 1))) := by
              have h := HFIT.out
              show applyM l ds = _
              rw [HAP.out, if_pos]
              rw [h]
              simp
            clear HFIT HAP
            go_wp2_with fail
            refine (l01Put_any g c cur key new w3 HO3.out (by omega) hcc).mono ?_
            rintro e w4 ⟨v4, rfl, ho4, hb4⟩
            have hpl : (putP cur key new).length ≤ cur.length + 1 := by rw [putP_len]; split <;> omega
            obtain ⟨g4, c4, rfl, hc4⟩ := own_some ho4 (by unfold putP; simp; omega)
            have HO4 := Lib.hid (Rd.own ho4)
            have HB4 := Lib.hid (below_after HB3.out hb4)
            clear ho4 hb4
            go_wp2_with fail
            go_roundw
            case rel => exact ⟨k + 1, g4, c4, putP cur key new, by go_num, hkl, rfl, hc4, HOKF.out.symm, by omega, HO4.out, HB4.out⟩
            case measure => simp [intOf]; omega
          · obtain ⟨hq1, hq2⟩ := neL hv
            have HNF : Hid (appR l ds = (l, 18)) := by
              have h := HFIT.out
              show appR l ds = _
              refine appR_none ?_
              rw [HAP.out, if_neg]
              rw [h]
              simp [hv]
            clear HFIT HAP
            go_wp2_with fail
            go_ret2
            exact apps_bad HNF.out rfl (by decide) HB3.out
    · have hkk : k = ds.length := by omega
      have hE : applyM l ds = some cur := by rw [← HE.out, hkk, List.drop_length]; rfl
      by_cases hbig : 60 < cur.length
      · have HR := Lib.hid (appR_full hE hbig)
        clear hb hE
        go_wp2_with fail
        go_ret2
        exact apps_bad HR.out rfl (by decide) HB.out
      · have HR := Lib.hid (appR_some hE (by omega))
        clear hb hE
        go_wp2_with fail
        go_ret2
        unfold AppS
        rw [HR.out]
        exact ⟨_, rfl, fun _ => ⟨g, c, rfl, hcc, HO.out⟩, HB.out⟩
end Go.Proofs.Ytlfnpnkpjdmonaa
