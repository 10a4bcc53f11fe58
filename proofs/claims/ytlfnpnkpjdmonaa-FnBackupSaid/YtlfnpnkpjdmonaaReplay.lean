import Derived.Test.YtlfnpnkpjdmonaaBkOK
import Derived.Test.YtlfnpnkpjdmonaaPairLawW
import Derived.Test.YtlfnpnkpjdmonaaLink
import Derived.Test.YtlfnpnkpjdmonaaDiffLawW
set_option linter.unusedVariables false
set_option linter.unusedSimpArgs false
namespace Go.Proofs.Ytlfnpnkpjdmonaa
open Go.RowKit

/-! ### backups as they lie in rows; what replaying comes to -/
structure Bk where
  f : ByteArray
  t : ByteArray
  ch : Int
  D : Option Addr
  ds : List Df
  dc : Nat
  sm : Int
def encBk (m : Bk) : List Value := [.string m.f, .string m.t, .int .i64 m.ch, .slice m.D m.ds.length m.dc, .int .i64 m.sm]
theorem encBk_len (m : Bk) : (encBk m).length = 5 := rfl
noncomputable def Bk.ok (m : Bk) : Bool := bkB m.f m.t m.ch m.ds m.sm
structure BkR (m : Bk) : Prop where
  fl : m.f.size ≤ 8
  tl : m.t.size ≤ 8
  head : headB m.f m.t m.ch = true
  c0 : 0 ≤ m.ch
  c1 : m.ch < 4294967296
  s0 : 0 ≤ m.sm
  s1 : m.sm < 4294967296
  dl : m.ds.length ≤ 120
  dk : ∀ d ∈ m.ds, DOk d
theorem shortA_le {s : ByteArray} (h : shortA s = true) : s.size ≤ 8 := by
  simp only [shortA, shortB, Bool.and_eq_true, decide_eq_true_eq] at h
  simpa using h.1
theorem withinB_in {n a b : Int} (h : withinB n a b = true) : a ≤ n ∧ n ≤ b := by simpa [withinB] using h
theorem headB_parts {f t : ByteArray} {ch : Int} (h : headB f t ch = true) : f.size ≤ 8 ∧ t.size ≤ 8 ∧ 0 ≤ ch ∧ ch < 4294967296 := by
  simp only [headB, Bool.and_eq_true, Bool.or_eq_true, decide_eq_true_eq] at h
  obtain ⟨⟨h1, h2⟩, h3⟩ := h
  have h4 := withinB_in h3
  refine ⟨?_, shortA_le h2, h4.1, by omega⟩
  rcases h1 with h1 | ⟨h1, _⟩
  · exact shortA_le h1
  · rw [h1]; exact Nat.zero_le _
theorem Bk.ok_r {m : Bk} (h : m.ok = true) : BkR m := by
  simp only [Bk.ok, bkB, Bool.and_eq_true, decide_eq_true_eq] at h
  obtain ⟨h1, h2, h3, h4⟩ := h
  obtain ⟨a1, a2, a3, a4⟩ := headB_parts h1
  have b := withinB_in h2
  exact ⟨a1, a2, h1, a3, a4, b.1, by omega, h3, fun d hd => by
    obtain ⟨i, hi, rfl⟩ := List.getElem_of_mem hd
    exact (dOk_iff _).1 (okDs_good h4 i hi hi).1⟩
noncomputable def Bk.link (m : Bk) : Nat := linkM m.f m.t m.ch.toNat m.ds m.sm.toNat
theorem BkR.bkok {m : Bk} (h : BkR m) : BkOk m.f m.t m.ch.toNat m.ds m.sm.toNat := by
  have h0 := h.c0
  have h1 := h.c1
  have h2 := h.s0
  have h3 := h.s1
  refine ⟨Nat.le_trans h.fl (by omega), Nat.le_trans h.tl (by omega), ?_, by omega, by omega, h.dl, h.dk⟩
  rw [Int.toNat_of_nonneg h0]
  exact h.head
theorem layD_fine {l : List Pr} (hr : Rise l) (h : ∀ p ∈ l, pairB p = true) {d : Df} (hd : DOk d) : ∀ p ∈ layD l d, pairB p = true := by
  intro p hp
  unfold layD at hp
  split at hp
  · rcases (mem_putP hr _ _ _).1 hp with rfl | ⟨h1, _⟩
    · have h1 := withinB_in hd.key
      have h2 := hd.new
      simp only [pairB, Bool.and_eq_true, decide_eq_true_eq]
      omega
    · exact h p h1
  · exact h p ((mem_dropP _ _ _).1 hp).1
theorem applyM_told : ∀ (ds : List Df) (l : List Pr), Rise l → (∀ p ∈ l, pairB p = true) → (∀ d ∈ ds, DOk d) → ∀ o, applyM l ds = some o → Rise o ∧ ∀ p ∈ o, pairB p = true
  | [], l, hr, h, _, o, e => by cases e; exact ⟨hr, h⟩
  | d :: ds, l, hr, h, hd, o, e => by
    rw [applyM] at e
    split at e
    · exact applyM_told ds _ (layD_rise hr d) (layD_fine hr h (hd d (List.mem_cons_self ..))) (fun x hx => hd x (List.mem_cons_of_mem _ hx)) o e
    · cases e
theorem appR_told {l : List Pr} {ds : List Df} (h : Told l) (hd : ∀ d ∈ ds, DOk d) : Told (appR l ds).1 := by
  unfold appR
  cases e : applyM l ds with
  | none => exact h
  | some o =>
    obtain ⟨h1, h2⟩ := applyM_told ds l h.rise h.fine hd o e
    by_cases hl : o.length ≤ 60
    · simp only [if_pos hl]; exact ⟨hl, h1, h2⟩
    · simp only [if_neg hl]; exact h
noncomputable def repR (l : List Pr) (last : ByteArray) (chain : Int) (m : Bk) : List Pr × Int :=
  if m.f = last then if m.ch = chain then if (appR l m.ds).2 = 0 then if (sumP (appR l m.ds).1 : Int) = m.sm then appR l m.ds else (l, 8) else appR l m.ds else (l, 14) else (l, 13)
theorem repR_told {l : List Pr} {last : ByteArray} {chain : Int} {m : Bk} (h : Told l) (hm : BkR m) : Told (repR l last chain m).1 := by
  have := appR_told h hm.dk
  unfold repR
  repeat' split
  all_goals assumption
theorem appR_code (l : List Pr) (ds : List Df) : (appR l ds).2 = 0 ∨ (appR l ds).2 = 18 ∨ (appR l ds).2 = 7 := by
  unfold appR
  split
  · exact .inr (.inl rfl)
  · split
    · exact .inl rfl
    · exact .inr (.inr rfl)
set_option maxRecDepth 100000 in
set_option maxHeartbeats 2000000 in
theorem replay_any (A : Option Addr) (ca : Nat) (l : List Pr) (last : ByteArray) (chain : Int) (m : Bk) (w : World) (hx : Rd w w.heap.size A (flat encP l)) (hy : Rd w w.heap.size m.D (flat encD m.ds)) (hl : Told l) (hm : BkR m) (hn : A = none → ca = 0) :
    Calls Try.prog 167 #[.slice A l.length ca, .string last, .int .i64 chain, bkV m.f m.t m.ch m.D m.ds.length m.dc m.sm] w (MadeT (repR l last chain m).1 (repR l last chain m).2 w) := by
  obtain ⟨f, t, ch, D, ds, dc, sm⟩ := m
  have hx' : Rd w w.heap.size D (flat encD ds) := hy
  have hdl : ds.length ≤ 120 := hm.dl
  have hll := hl.len
  have HX := Lib.hid hx
  have HY := Lib.hid hx'
  have HL := Lib.hid hl
  have HM := Lib.hid hm
  have HN := Lib.hid hn
  have hb0 : Below w.heap.size w (w.alloc (.cells #[.string f, .string t, .int .i64 ch, .slice D ds.length dc, .int .i64 sm] 86)) := by repeat (first | exact Below.refl _ _ | assumption | refine Below.drew ?_ | refine below_drewN ?_ _ | refine Below.setCell ?_ (by first | exact Nat.le_refl _ | exact Below.size (by assumption) | (simp; done) | (simp; omega) | omega) _ | refine Below.alloc ?_ (by first | exact Nat.le_refl _ | exact Below.size (by assumption) | (simp; done) | (simp; omega) | omega) _)
  have HB0 := Lib.hid hb0
  have hsz : w.heap.size < (w.alloc (.cells #[.string f, .string t, .int .i64 ch, .slice D ds.length dc, .int .i64 sm] 86)).heap.size := by simp
  have HE0 : Hid ((w.alloc (.cells #[.string f, .string t, .int .i64 ch, .slice D ds.length dc, .int .i64 sm] 86)).heap[w.heap.size]? = some (.cells #[.string f, .string t, .int .i64 ch, .slice D ds.length dc, .int .i64 sm] 86 (0, 0))) := heap_alloc_new _ _
  clear hx hy hx' hl hm hn hb0
  by_cases hf : f = last
  case neg =>
    obtain ⟨q1, q2⟩ := neL hf
    have HR : Hid (repR l last chain ⟨f, t, ch, D, ds, dc, sm⟩ = (l, 13)) := by
      show _ = _
      unfold repR
      exact if_neg hf
    clear hf
    go_enter Try.func167, Try.ntmps167
    go_wp2_with fail
    refine (clone_any A ca l _ (HX.out.next HB0.out) (by omega) HN.out).mono ?_
    rintro e w1 ⟨v, rfl, ho, hb⟩
    have HO := Lib.hid (own_mono ho HB0.out.size)
    have HB := Lib.hid (below_after HB0.out hb)
    clear ho hb
    go_wp2_with fail
    go_ret2
    rw [HR.out]
    exact ⟨_, rfl, HO.out, HB.out⟩
  subst hf
  by_cases hc : ch = chain
  case neg =>
    obtain ⟨q1, q2⟩ := neI hc
    have HR : Hid (repR l f chain ⟨f, t, ch, D, ds, dc, sm⟩ = (l, 14)) := by
      show _ = _
      unfold repR
      rw [if_pos rfl]
      exact if_neg hc
    clear hc
    go_enter Try.func167, Try.ntmps167
    go_wp2_with fail
    refine (clone_any A ca l _ (HX.out.next HB0.out) (by omega) HN.out).mono ?_
    rintro e w1 ⟨v, rfl, ho, hb⟩
    have HO := Lib.hid (own_mono ho HB0.out.size)
    have HB := Lib.hid (below_after HB0.out hb)
    clear ho hb
    go_wp2_with fail
    go_ret2
    rw [HR.out]
    exact ⟨_, rfl, HO.out, HB.out⟩
  subst hc
  obtain ⟨o, c, hoc⟩ : ∃ o c, appR l ds = (o, c) := ⟨_, _, rfl⟩
  have HTO : Hid (Told o) := by
    have := appR_told HL.out (ds := ds) HM.out.dk
    rw [hoc] at this
    exact this
  have HC : Hid (c = 0 ∨ c = 18 ∨ c = 7) := by
    have := appR_code l ds
    rw [hoc] at this
    exact this
  have HOC := Lib.hid hoc
  have hol := HTO.out.len
  clear hoc
  go_enter Try.func167, Try.ntmps167
  go_wp2_with fail
  refine (applyDiffsG_any A D ca dc l ds _ (HX.out.next HB0.out) (HY.out.next HB0.out) HL.out.len hdl HL.out.rise HM.out.dk HN.out).mono ?_
  rw [HOC.out]
  rintro e w1 ⟨v, rfl, ho, hb⟩
  obtain ⟨C, cc, rfl, hcn⟩ := own_form2 (l := o) ho
  have HE1 := Lib.hid ((hb.block _ hsz).trans HE0.out)
  have hs1 : w.heap.size < w1.heap.size := Nat.lt_of_lt_of_le hsz hb.size
  have HO := Lib.hid (own_mono ho HB0.out.size)
  have HB := Lib.hid (below_after HB0.out hb)
  have c4 : w1.cell? ⟨w.heap.size, 4, none⟩ = some (.int .i64 sm) := by rw [cell_of_row w1 _ 4 _ _ _ HE1.out]; rfl
  clear ho hb hcn
  by_cases hz : c = 0
  case neg =>
    have HR : Hid (repR l f ch ⟨f, t, ch, D, ds, dc, sm⟩ = (o, c)) := by
      show _ = _
      unfold repR
      rw [if_pos rfl, if_pos rfl, HOC.out, if_neg hz]
    obtain ⟨q1, q2⟩ := neI hz
    clear hz
    go_wp2_with fail
    go_quiet (fail)
    go_wp2_with fail
    go_ret2
    rw [HR.out]
    exact ⟨_, rfl, HO.out, below_drewN HB.out _⟩
  subst hz
  by_cases hsm : (sumP o : Int) = sm
  case pos =>
    have HR : Hid (repR l f ch ⟨f, t, ch, D, ds, dc, sm⟩ = (o, 0)) := by
      show _ = _
      unfold repR
      rw [if_pos rfl, if_pos rfl, HOC.out, if_pos rfl, if_pos hsm]
    subst hsm
    obtain ⟨q1, q2⟩ := eqI (sumP o : Int)
    go_wp2_with fail
    go_region_held3 (fun w' => w'.cell? ⟨w.heap.size, 4, none⟩ = some (.int .i64 (sumP o)) ∧ w.heap.size < w'.heap.size)
      ((refine ⟨?_, ?_⟩ <;> first | assumption | exact (hb2.cell (p := ⟨w.heap.size, 4, none⟩) (by simpa using hs1)).trans c4 | exact Nat.lt_of_lt_of_le hs1 hb2.size))
      (first | (go_at_call 170; refine (pairsSum_any C cc o _ (by exact Rd.own HO.out) (by omega) HTO.out.fine).mono ?_; rintro e w2 ⟨rfl, hb2'⟩; have hb2 : Below w1.heap.size w1 w2 := undrew hb2'))
    all_goals
      have HB2 := Lib.hid (below_after HB.out hb2)
      have HO2 := Lib.hid (own_below HO.out hb2)
      clear hb2
      go_wp2_with fail
      go_ret2
      rw [HR.out]
      exact ⟨_, rfl, HO2.out, HB2.out⟩
  case neg =>
    have HR : Hid (repR l f ch ⟨f, t, ch, D, ds, dc, sm⟩ = (l, 8)) := by
      show _ = _
      unfold repR
      rw [if_pos rfl, if_pos rfl, HOC.out, if_pos rfl, if_neg hsm]
    obtain ⟨q1, q2⟩ := neI hsm
    clear hsm
    go_wp2_with fail
    go_region_held3 (fun w' => w'.cell? ⟨w.heap.size, 4, none⟩ = some (.int .i64 sm) ∧ w.heap.size < w'.heap.size)
      ((refine ⟨?_, ?_⟩ <;> first | assumption | exact (hb2.cell (p := ⟨w.heap.size, 4, none⟩) (by simpa using hs1)).trans c4 | exact Nat.lt_of_lt_of_le hs1 hb2.size))
      (first | (go_at_call 170; refine (pairsSum_any C cc o _ (by exact Rd.own HO.out) (by omega) HTO.out.fine).mono ?_; rintro e w2 ⟨rfl, hb2'⟩; have hb2 : Below w1.heap.size w1 w2 := undrew hb2'))
    all_goals
      have HB2 := Lib.hid (below_after HB.out hb2)
      clear hb2
      go_wp2_with fail
      refine (clone_any A ca l _ (HX.out.next HB2.out) (by omega) HN.out).mono ?_
      rintro e w3 ⟨v3, rfl, ho3, hb3⟩
      have HO3 := Lib.hid (own_mono ho3 HB2.out.size)
      have HB3 := Lib.hid (below_after HB2.out hb3)
      clear ho3 hb3
      go_wp2_with fail
      go_ret2
      rw [HR.out]
      exact ⟨_, rfl, HO3.out, HB3.out⟩
end Go.Proofs.Ytlfnpnkpjdmonaa
namespace Go.Proofs.Ytlfnpnkpjdmonaa
open Go.RowKit

/-! ### replaying a chain -/
noncomputable def repA (l : List Pr) (last : ByteArray) (ch : Int) : List Bk → List Pr × Int
  | [] => (l, 0)
  | m :: ms => if (repR l last ch m).2 = 0 then repA (repR l last ch m).1 m.t m.link ms else ([], (repR l last ch m).2)
theorem bk_at {l : List Bk} {i : Nat} (h : i < l.length) : (flat encBk l)[i * 5]? = some (.string l[i].f) ∧ (flat encBk l)[i * 5 + 1]? = some (.string l[i].t) ∧ (flat encBk l)[i * 5 + 2]? = some (.int .i64 l[i].ch) ∧ (flat encBk l)[i * 5 + 3]? = some (.slice l[i].D l[i].ds.length l[i].dc) ∧ (flat encBk l)[i * 5 + 4]? = some (.int .i64 l[i].sm) :=
  ⟨by simpa using flat_get (j := 0) encBk_len (List.getElem?_eq_getElem h) rfl, flat_get (j := 1) encBk_len (List.getElem?_eq_getElem h) rfl, flat_get (j := 2) encBk_len (List.getElem?_eq_getElem h) rfl, flat_get (j := 3) encBk_len (List.getElem?_eq_getElem h) rfl, flat_get (j := 4) encBk_len (List.getElem?_eq_getElem h) rfl⟩
theorem Rd.bk {w : World} {B : Nat} {A : Option Addr} {l : List Bk} (h : Rd w B A (flat encBk l)) {i : Nat} (hi : i < l.length) : ∃ ad, A = some ad ∧ ad.block < B ∧ w.cell? (ad.add (i * 5)) = some (.string l[i].f) ∧ w.cell? ⟨(ad.add (i * 5)).block, (ad.add (i * 5)).off + 1, none⟩ = some (.string l[i].t) ∧ w.cell? ⟨(ad.add (i * 5)).block, (ad.add (i * 5)).off + 1 + 1, none⟩ = some (.int .i64 l[i].ch) ∧ w.cell? ⟨(ad.add (i * 5)).block, (ad.add (i * 5)).off + 1 + 1 + 1, none⟩ = some (.slice l[i].D l[i].ds.length l[i].dc) ∧ w.cell? ⟨(ad.add (i * 5)).block, (ad.add (i * 5)).off + 1 + 1 + 1 + 1, none⟩ = some (.int .i64 l[i].sm) := by
  obtain ⟨ad, e, hb, hc⟩ := h (by
    intro h0
    have := flat_length encBk_len l
    rw [h0] at this
    simp at this
    omega)
  exact ⟨ad, e, hb, hc _ _ (bk_at hi).1, add_off ad (i * 5) 1 (by omega) ▸ hc _ _ (bk_at hi).2.1, add_off ad (i * 5) 2 (by omega) ▸ hc _ _ (bk_at hi).2.2.1, add_off ad (i * 5) 3 (by omega) ▸ hc _ _ (bk_at hi).2.2.2.1, add_off ad (i * 5) 4 (by omega) ▸ hc _ _ (bk_at hi).2.2.2.2⟩
theorem own_nilRow (w : World) (base e size : Nat) : w.ownsRow base e size (.slice none 0 0) 0 [] := ⟨by simp, .inl ⟨rfl, rfl⟩⟩
theorem bkAt_box {w : World} {g : Nat} {m : Bk} {cs : Array Value} {T : TypeId} (h : w.heap[g]? = some (.cells #[.string m.f, .string m.t, .int .i64 m.ch, .slice m.D m.ds.length m.dc, .int .i64 m.sm] T (0, 0))) (hr : BkR m) (hd : Rd w w.heap.size m.D (flat encD m.ds)) : BkAt w g m.f m.t (m.ch.toNat : Int) m.D m.ds m.dc (m.sm.toNat : Int) := by
  rw [Int.toNat_of_nonneg hr.c0, Int.toNat_of_nonneg hr.s0]
  exact ⟨by rw [cell_of_row w _ 0 _ _ _ h]; rfl, by rw [cell_of_row w _ 1 _ _ _ h]; rfl, by rw [cell_of_row w _ 2 _ _ _ h]; rfl, by rw [cell_of_row w _ 3 _ _ _ h]; rfl, by rw [cell_of_row w _ 4 _ _ _ h]; rfl, (Array.getElem?_eq_some_iff.1 h).1, hd⟩
set_option maxRecDepth 100000 in
set_option maxHeartbeats 2000000 in
theorem replayAll_any (A : Option Addr) (c : Nat) (ms : List Bk) (w : World) (hx : Rd w w.heap.size A (flat encBk ms)) (hd : ∀ m ∈ ms, Rd w w.heap.size m.D (flat encD m.ds)) (hr : ∀ m ∈ ms, BkR m) (hl : ms.length ≤ 4096) :
    Calls Try.prog 169 #[.slice A ms.length c] w (MadeT (repA [] ⟨#[]⟩ 0 ms).1 (repA [] ⟨#[]⟩ 0 ms).2 w) := by
  have HX := Lib.hid hx
  have HD := Lib.hid hd
  have HR := Lib.hid hr
  have hb0 : Below w.heap.size w (w.alloc (.cells #[] 82)) := by repeat (first | exact Below.refl _ _ | assumption | refine Below.drew ?_ | refine below_drewN ?_ _ | refine Below.setCell ?_ (by first | exact Nat.le_refl _ | exact Below.size (by assumption) | (simp; done) | (simp; omega) | omega) _ | refine Below.alloc ?_ (by first | exact Nat.le_refl _ | exact Below.size (by assumption) | (simp; done) | (simp; omega) | omega) _)
  have ho0 := own_empty_at (w := w.alloc (.cells #[] 82)) (size := 2) (Nat.le_refl w.heap.size) (heap_alloc_new w _)
  have H0 := Lib.hid (And.intro hb0 ho0)
  clear hx hd hr hb0 ho0
  go_enter Try.func169, Try.ntmps169
  go_wp2_with fail
  go_loopw [4, 5, 6, 14] (fun v la cv x wr => ∃ (k : Nat) (l : List Pr) (last : ByteArray) (ch : Int), x = .int .i64 k ∧ k ≤ ms.length ∧ la = .string last ∧ cv = .int .i64 ch ∧ repA l last ch (ms.drop k) = repA [] ⟨#[]⟩ 0 ms ∧ Told l ∧ wr.ownsRow w.heap.size 82 2 v l.length (flat encP l) ∧ Below w.heap.size w wr) (fun _ _ _ x _ => ms.length - (intOf x).toNat)
  case atStart => exact ⟨0, [], ⟨#[]⟩, 0, rfl, Nat.zero_le _, rfl, rfl, rfl, ⟨Nat.zero_le _, trivial, fun p hp => by cases hp⟩, H0.out.2, H0.out.1⟩
  case round =>
    obtain ⟨k, l, last, ch, rfl, hk, rfl, rfl, heq, ht, ho, hb⟩ := hrel
    obtain ⟨C, cc, rfl, hcn⟩ := own_form2 (l := l) ho
    have HEQ := Lib.hid heq
    have HT := Lib.hid ht
    have HO := Lib.hid ho
    have HCN := Lib.hid hcn
    have HB := Lib.hid hb
    have hcl := hb.size
    clear heq ht ho hcn H0
    by_cases hlt : k < ms.length
    · obtain ⟨ad, rfl, hbl, h1, h2, h3, h4, h5⟩ := (HX.out.below hb).bk hlt
      have HDM := Lib.hid (HD.out _ (List.getElem_mem hlt))
      have HRM := Lib.hid (HR.out _ (List.getElem_mem hlt))
      have hdr : ms.drop k = ms[k] :: ms.drop (k + 1) := List.drop_eq_getElem_cons hlt
      have HEQ2 : Hid (repA l last ch (ms[k] :: ms.drop (k + 1)) = repA [] ⟨#[]⟩ 0 ms) := by
        have := HEQ.out
        rw [hdr] at this
        exact this
      obtain ⟨m, hm⟩ : ∃ m, m = ms[k] := ⟨_, rfl⟩
      rw [← hm] at h1 h2 h3 h4 h5 HDM HRM HEQ2
      have hba : Below wr.heap.size wr (wr.alloc (.cells #[.string m.f, .string m.t, .int .i64 m.ch, .slice m.D m.ds.length m.dc, .int .i64 m.sm] 86)) := by repeat (first | exact Below.refl _ _ | assumption | refine Below.drew ?_ | refine below_drewN ?_ _ | refine Below.setCell ?_ (by first | exact Nat.le_refl _ | exact Below.size (by assumption) | (simp; done) | (simp; omega) | omega) _ | refine Below.alloc ?_ (by first | exact Nat.le_refl _ | exact Below.size (by assumption) | (simp; done) | (simp; omega) | omega) _)
      have HNW : Hid ((wr.alloc (.cells #[.string m.f, .string m.t, .int .i64 m.ch, .slice m.D m.ds.length m.dc, .int .i64 m.sm] 86)).heap[wr.heap.size]? = some (.cells #[.string m.f, .string m.t, .int .i64 m.ch, .slice m.D m.ds.length m.dc, .int .i64 m.sm] 86 (0, 0))) := heap_alloc_new _ _
      have HBA := Lib.hid hba
      have hsz : wr.heap.size < (wr.alloc (.cells #[.string m.f, .string m.t, .int .i64 m.ch, .slice m.D m.ds.length m.dc, .int .i64 m.sm] 86)).heap.size := by simp
      clear hm hdr hb HEQ hba
      go_wp2_with fail
      refine (replay_any C cc l last ch m _ (Rd.next (Rd.own HO.out) HBA.out) ((HDM.out.next HB.out).next HBA.out) HT.out HRM.out HCN.out).mono ?_
      rintro e w2 ⟨v2, rfl, ho2, hb2⟩
      have HN2 := Lib.hid ((hb2.block _ hsz).trans HNW.out)
      have HB2 := Lib.hid (below_after HB.out (below_after HBA.out hb2))
      have HO2 := Lib.hid (own_mono ho2 (Nat.le_trans hcl HBA.out.size))
      have hs2 : wr.heap.size < w2.heap.size := Nat.lt_of_lt_of_le hsz hb2.size
      have HBW := Lib.hid (Below.trans HBA.out (hb2.mono HBA.out.size))
      clear ho2 hb2 h1 h2 h3 h4 h5
      obtain ⟨o, c, hoc⟩ : ∃ o c, repR l last ch m = (o, c) := ⟨_, _, rfl⟩
      have HTO : Hid (Told o) := by
        have := repR_told HT.out HRM.out (last := last) (chain := ch)
        rw [hoc] at this
        exact this
      have HOC := Lib.hid hoc
      rw [hoc] at HO2 ⊢
      clear hoc
      by_cases hz : c = 0
      · subst hz
        have c1 : w2.cell? ⟨wr.heap.size, 1, none⟩ = some (.string m.t) := by rw [cell_of_row w2 _ 1 _ _ _ HN2.out]; rfl
        go_wp2_with fail
        go_region_held3 (fun w' => w'.cell? ⟨wr.heap.size, 1, none⟩ = some (.string m.t))
          (first | assumption | exact (hb3.cell (p := ⟨wr.heap.size, 1, none⟩) (by simpa using hs2)).trans c1)
          (first | (go_at_call 214; refine (link_any wr.heap.size m.f m.t m.ch.toNat m.D m.ds m.dc m.sm.toNat _ (by exact bkAt_box (cs := #[]) HN2.out HRM.out ((HDM.out.next HB.out).next HBW.out.drew)) HRM.out.bkok).mono ?_; rw [show linkM m.f m.t m.ch.toNat m.ds m.sm.toNat = m.link from rfl]; rintro e w3 ⟨rfl, hb3'⟩; have hb3 : Below w2.heap.size w2 w3 := undrew hb3'))
        all_goals
          have HB3 := Lib.hid (below_after HB2.out hb3)
          have HO3 := Lib.hid (own_below HO2.out hb3)
          clear hb3 c1
          go_wp2_with fail
          go_roundw
          case rel =>
            have h := HEQ2.out
            rw [repA, HOC.out, if_pos rfl] at h
            exact ⟨k + 1, o, m.t, m.link, by go_num, hlt, rfl, rfl, h, HTO.out, HO3.out, HB3.out⟩
          case measure => simp [intOf]; omega
      · have HRR : Hid (repA [] ⟨#[]⟩ 0 ms = ([], c)) := by
          have h := HEQ2.out
          rw [repA, HOC.out, if_neg hz] at h
          exact h.symm
        obtain ⟨q1, q2⟩ := neI hz
        clear hz
        go_wp2_with fail
        go_ret2
        rw [HRR.out]
        exact ⟨_, rfl, own_nilRow _ _ _ _, HB2.out⟩
    · obtain rfl : k = ms.length := by omega
      have HRR : Hid (repA [] ⟨#[]⟩ 0 ms = (l, 0)) := by
        have h := HEQ.out
        rw [List.drop_length, repA] at h
        exact h.symm
      clear hb
      go_wp2_with fail
      go_ret2
      rw [HRR.out]
      exact ⟨_, rfl, HO.out, HB.out⟩
theorem replayAll1_any (m : Bk) (w : World) (hd : Rd w w.heap.size m.D (flat encD m.ds)) (hf : m.f.size ≤ maxLen) (ht : m.t.size ≤ maxLen) (hl : m.ds.length ≤ 1048576) (hs : ∀ d ∈ m.ds, DSz d) :
    Calls Try.prog 168 #[bkV m.f m.t m.ch m.D m.ds.length m.dc m.sm] w fun e w' => e = .returned (.bool (!m.ok)) ∧ Below w.heap.size w w' := by
  have hb0 : Below w.heap.size w (w.alloc (.cells #[.string m.f, .string m.t, .int .i64 m.ch, .slice m.D m.ds.length m.dc, .int .i64 m.sm] 86)) := by repeat (first | exact Below.refl _ _ | assumption | refine Below.drew ?_ | refine below_drewN ?_ _ | refine Below.setCell ?_ (by first | exact Nat.le_refl _ | exact Below.size (by assumption) | (simp; done) | (simp; omega) | omega) _ | refine Below.alloc ?_ (by first | exact Nat.le_refl _ | exact Below.size (by assumption) | (simp; done) | (simp; omega) | omega) _)
  have HB := Lib.hid hb0
  have HC := Lib.hid (implBackupOK_any m.f m.t m.ch m.D m.ds m.dc m.sm _ (hd.next hb0) hl hf ht hs)
  clear hd hb0
  rw [show bkB m.f m.t m.ch m.ds m.sm = m.ok from rfl] at HC
  go_enter Try.func168, Try.ntmps168
  go_wp2_with fail
  refine HC.out.mono ?_
  rintro e w1 ⟨rfl, hb⟩
  have HB1 := Lib.hid (below_after HB.out hb)
  clear hb
  go_wp2_with fail
  go_ret
  exact ⟨rfl, HB1.out⟩
structure BkSz (m : Bk) (w : World) : Prop where
  rd : Rd w w.heap.size m.D (flat encD m.ds)
  fl : m.f.size ≤ maxLen
  tl : m.t.size ≤ maxLen
  dl : m.ds.length ≤ 1048576
  ds : ∀ d ∈ m.ds, DSz d
theorem BkSz.next {m : Bk} {w w' : World} (h : BkSz m w) (hb : Below w.heap.size w w') : BkSz m w' := ⟨h.rd.next hb, h.fl, h.tl, h.dl, h.ds⟩
def IdxAll (b : Bool) (w : World) (e : Ending) (w' : World) : Prop := ∃ n : Int, e = .returned (.int .i64 n) ∧ decide (0 ≤ n) = b ∧ Below w.heap.size w w'
set_option maxRecDepth 100000 in
theorem indexBk_any (A : Option Addr) (c : Nat) (ms : List Bk) (w : World) (hx : Rd w w.heap.size A (flat encBk ms)) (hs : ∀ m ∈ ms, BkSz m w) (hl : ms.length ≤ 1048576) :
    Calls Try.prog 224 #[.slice A ms.length c, .func (.func 168) #[] #[]] w (IdxAll (ms.any fun m => !m.ok) w) := by
  have HX := Lib.hid hx
  have HS := Lib.hid hs
  clear hx hs
  go_enter Try.func224, Try.ntmps224
  go_wp2_with fail
  go_loopw [8] (fun i wr => ∃ k : Nat, k ≤ ms.length ∧ i = .int .i64 k ∧ (∀ m ∈ ms.take k, m.ok = true) ∧ Below w.heap.size w wr) (fun i _ => ms.length - (intOf i).toNat)
  case atStart => exact ⟨0, Nat.zero_le _, rfl, by simp, Below.refl _ _⟩
  case round =>
    obtain ⟨k, hk, rfl, hg, hb⟩ := hrel
    have HG := Lib.hid hg
    clear hg
    by_cases hlt : k < ms.length
    · obtain ⟨ad, rfl, hbl, h1, h2, h3, h4, h5⟩ := (HX.out.below hb).bk hlt
      have HSM := Lib.hid (HS.out _ (List.getElem_mem hlt))
      obtain ⟨m, hm⟩ : ∃ m, m = ms[k] := ⟨_, rfl⟩
      rw [← hm] at h1 h2 h3 h4 h5 HSM
      have HM := Lib.hid hm
      have HB := Lib.hid hb
      clear hm hb
      go_wp2_with fail
      refine (replayAll1_any m _ (HSM.out.next HB.out).rd HSM.out.fl HSM.out.tl HSM.out.dl HSM.out.ds).mono ?_
      rintro e w2 ⟨rfl, hb2⟩
      have HB2 := Lib.hid (below_after HB.out hb2)
      clear hb2
      cases hok : m.ok with
      | true =>
        have HOK := Lib.hid hok
        clear hok
        go_wp2_with fail
        go_roundw
        case rel =>
          refine ⟨k + 1, hlt, by go_num, fun x hx => ?_, HB2.out⟩
          rw [List.take_succ_eq_append_getElem hlt, List.mem_append] at hx
          rcases hx with hx | hx
          · exact HG.out x hx
          · rw [List.mem_singleton.1 hx, ← HM.out]; exact HOK.out
        case measure => simp [intOf]; omega
      | false =>
        have HOK := Lib.hid hok
        clear hok
        go_wp2_with fail
        go_ret
        refine ⟨k, rfl, ?_, HB2.out⟩
        rw [decide_eq_true (by omega)]
        exact (List.any_eq_true.2 ⟨m, by rw [HM.out]; exact List.getElem_mem hlt, by rw [HOK.out]; rfl⟩).symm
    · go_wp2_with fail
      go_ret
      refine ⟨-1, rfl, ?_, hb⟩
      rw [decide_eq_false (by omega)]
      symm
      rw [List.any_eq_false]
      intro m hm
      rw [HG.out m (by rwa [List.take_of_length_le (by omega)])]
      simp
theorem containsBk_any (A : Option Addr) (c : Nat) (ms : List Bk) (w : World) (hx : Rd w w.heap.size A (flat encBk ms)) (hs : ∀ m ∈ ms, BkSz m w) (hl : ms.length ≤ 1048576) :
    Calls Try.prog 160 #[.slice A ms.length c, .func (.func 168) #[] #[]] w fun e w' => e = .returned (.bool (ms.any fun m => !m.ok)) ∧ Below w.heap.size w w' := by
  have HC := Lib.hid (indexBk_any A c ms w hx hs hl)
  generalize (ms.any fun m => !m.ok) = b at HC ⊢
  clear hx hs
  go_enter Try.func160, Try.ntmps160
  go_wp2_with fail
  refine HC.out.mono ?_
  rintro e w1 ⟨n, rfl, hn, hb⟩
  have HB := Lib.hid hb
  have HN := Lib.hid hn
  clear hb hn
  go_wp2_with fail
  go_ret
  exact ⟨by rw [← HN.out]; rfl, HB.out⟩
end Go.Proofs.Ytlfnpnkpjdmonaa
namespace Go.Proofs.Ytlfnpnkpjdmonaa
open Go.RowKit

/-! ### backups as they are called -/
noncomputable def Bk.bytes (m : Bk) : List UInt8 := bytesB m.f m.t m.ch.toNat m.ds m.sm.toNat
def BytesPost (l : List UInt8) (w : World) (e : Ending) (w' : World) : Prop := ∃ g cap, e = .returned (.tuple #[.slice (some ⟨g, 0, none⟩) l.length cap, .int .i64 0]) ∧ Rd w' w'.heap.size (some ⟨g, 0, none⟩) (l.map bv) ∧ w.heap.size ≤ g ∧ Below w.heap.size w w'
theorem BkR.sz {m : Bk} (h : BkR m) {w : World} (hd : Rd w w.heap.size m.D (flat encD m.ds)) : BkSz m w :=
  ⟨hd, Nat.le_trans h.fl (by simp only [maxLen]; omega), Nat.le_trans h.tl (by simp only [maxLen]; omega), Nat.le_trans h.dl (by omega), fun d hd => by
    have h1 := h.dk d hd
    have h2 : d.key.size ≤ 30 := withinB_le h1.key
    have h3 := h1.old
    have h4 := h1.new
    exact ⟨by omega, by omega, by omega⟩⟩
set_option maxRecDepth 100000 in
set_option maxHeartbeats 1000000 in
theorem backupBytes_any (m : Bk) (w : World) (hd : Rd w w.heap.size m.D (flat encD m.ds)) (hok : m.ok = true) :
    Calls Try.prog 66 #[bkV m.f m.t m.ch m.D m.ds.length m.dc m.sm] w (BytesPost m.bytes w) := by
  have hr := Bk.ok_r hok
  have hb0 : Below w.heap.size w (w.alloc (.cells #[.string m.f, .string m.t, .int .i64 m.ch, .slice m.D m.ds.length m.dc, .int .i64 m.sm] 86)) := by repeat (first | exact Below.refl _ _ | assumption | refine Below.drew ?_ | refine below_drewN ?_ _ | refine Below.setCell ?_ (by first | exact Nat.le_refl _ | exact Below.size (by assumption) | (simp; done) | (simp; omega) | omega) _ | refine Below.alloc ?_ (by first | exact Nat.le_refl _ | exact Below.size (by assumption) | (simp; done) | (simp; omega) | omega) _)
  have hsz : w.heap.size < (w.alloc (.cells #[.string m.f, .string m.t, .int .i64 m.ch, .slice m.D m.ds.length m.dc, .int .i64 m.sm] 86)).heap.size := by simp
  have HE0 : Hid ((w.alloc (.cells #[.string m.f, .string m.t, .int .i64 m.ch, .slice m.D m.ds.length m.dc, .int .i64 m.sm] 86)).heap[w.heap.size]? = some (.cells #[.string m.f, .string m.t, .int .i64 m.ch, .slice m.D m.ds.length m.dc, .int .i64 m.sm] 86 (0, 0))) := heap_alloc_new _ _
  have HB0 := Lib.hid hb0
  have HR := Lib.hid hr
  have hz := hr.sz (hd.next hb0)
  have HD := Lib.hid hd
  have HC := Lib.hid (implBackupOK_any m.f m.t m.ch m.D m.ds m.dc m.sm _ hz.rd hz.dl hz.fl hz.tl hz.ds)
  rw [show bkB m.f m.t m.ch m.ds m.sm = m.ok from rfl, hok] at HC
  clear hd hb0 hr hz hok
  go_enter Try.func66, Try.ntmps66
  go_wp2_with fail
  refine HC.out.mono ?_
  rintro e w1 ⟨rfl, hb⟩
  have HN1 := Lib.hid ((hb.block _ hsz).trans HE0.out)
  have HB1 := Lib.hid (below_after HB0.out hb)
  clear hb HC
  go_wp2_with fail
  refine (bkBytes_any w.heap.size m.f m.t m.ch.toNat m.D m.ds m.dc m.sm.toNat _ (by exact bkAt_box (cs := #[]) HN1.out HR.out (HD.out.next HB1.out)) HR.out.bkok).mono ?_
  rw [show bytesB m.f m.t m.ch.toNat m.ds m.sm.toNat = m.bytes from rfl]
  rintro e w2 ⟨rfl, hb2⟩
  obtain ⟨g, cap, w3, hrun, hb3, hg, _, hr2⟩ := conv_bytes_rd w2 m.bytes
  have HB3 := Lib.hid (below_after HB1.out (below_after hb2 hb3))
  have HR2 := Lib.hid hr2
  have HG : Hid (w.heap.size ≤ g) := by rw [hg]; exact Nat.le_trans HB1.out.size hb2.size
  clear hb2 hb3 hr2 hg
  go_wp2_with fail
  go_ret2
  exact ⟨g, cap, rfl, HR2.out, HG.out, HB3.out⟩
theorem implPairsSum_any (A : Option Addr) (c : Nat) (l : List Pr) (w : World) (hx : Rd w w.heap.size A (flat encP l)) (hl : Told l) :
    Calls Try.prog 89 #[.slice A l.length c] w fun e w' => e = .returned (.tuple #[.int .i64 (sumP l), .int .i64 0]) ∧ Below w.heap.size w w' := by
  have hl1 := hl.len
  have HX := Lib.hid hx
  have HL := Lib.hid hl
  have HC := Lib.hid (implPairsOK_any A c l w hx (by omega) hl.sz)
  rw [hl.ok] at HC
  clear hx hl
  go_enter Try.func89, Try.ntmps89
  go_wp2_with fail
  refine HC.out.mono ?_
  rintro e w1 ⟨rfl, hb1⟩
  have HB1 := Lib.hid hb1
  clear hb1
  go_wp2_with fail
  refine (pairsSum_any A c l _ (HX.out.next HB1.out) (by omega) HL.out.fine).mono ?_
  rintro e w2 ⟨rfl, hb2⟩
  have HB2 := Lib.hid (below_after HB1.out hb2)
  clear hb2
  go_wp2_with fail
  go_ret2
  exact ⟨rfl, HB2.out⟩
theorem heap_set5 {w : World} {g T : Nat} {a0 a1 a2 a3 a4 : Value} (h : w.heap[g]? = some (.cells #[a0, a1, a2, a3, a4] T (0, 0))) (v0 v1 v2 v3 v4 : Value) :
    (((((w.setCell ⟨g, 0, none⟩ v0).setCell ⟨g, 1, none⟩ v1).setCell ⟨g, 2, none⟩ v2).setCell ⟨g, 3, none⟩ v3).setCell ⟨g, 4, none⟩ v4).heap[g]? = some (.cells #[v0, v1, v2, v3, v4] T (0, 0)) := by
  have e1 := heap_setCell_same w g 0 _ T v0 h
  have e2 := heap_setCell_same _ g 1 _ T v1 e1
  have e3 := heap_setCell_same _ g 2 _ T v2 e2
  have e4 := heap_setCell_same _ g 3 _ T v3 e3
  have e5 := heap_setCell_same _ g 4 _ T v4 e4
  simpa using e5
def MadeBk (f t : ByteArray) (ch : Int) (a b : List Pr) (k : Value → Value) (w : World) (e : Ending) (w' : World) : Prop := ∃ D dc, e = .returned (k (bkV f t ch D (diffM a b).length dc (sumP b))) ∧ w'.ownsRow w.heap.size 145 5 (.slice D (diffM a b).length dc) (diffM a b).length (flat encD (diffM a b)) ∧ Below w.heap.size w w'
set_option maxRecDepth 100000 in
set_option maxHeartbeats 1000000 in
theorem makeBackup_any (f t : ByteArray) (ch : Int) (A B : Option Addr) (ca cb : Nat) (a b : List Pr) (w : World) (hx : Rd w w.heap.size A (flat encP a)) (hy : Rd w w.heap.size B (flat encP b)) (ha : Told a) (hb : Told b) (hca : a.length ≤ ca) (hcb : b.length ≤ cb) :
    Calls Try.prog 166 #[.string f, .string t, .int .i64 ch, .slice A a.length ca, .slice B b.length cb] w (MadeBk f t ch a b id w) := by
  have h1 := ha.len
  have h2 := hb.len
  have HX := Lib.hid hx
  have HY := Lib.hid hy
  have HBT := Lib.hid hb
  have hb0 : Below w.heap.size w (w.alloc (.cells #[.string ⟨#[]⟩, .string ⟨#[]⟩, .int .i64 0, .slice none 0 0, .int .i64 0] 86)) := by repeat (first | exact Below.refl _ _ | assumption | refine Below.drew ?_ | refine below_drewN ?_ _ | refine Below.setCell ?_ (by first | exact Nat.le_refl _ | exact Below.size (by assumption) | (simp; done) | (simp; omega) | omega) _ | refine Below.alloc ?_ (by first | exact Nat.le_refl _ | exact Below.size (by assumption) | (simp; done) | (simp; omega) | omega) _)
  have HB0 := Lib.hid hb0
  have hsz : w.heap.size < (w.alloc (.cells #[.string ⟨#[]⟩, .string ⟨#[]⟩, .int .i64 0, .slice none 0 0, .int .i64 0] 86)).heap.size := by simp
  have HE0 : Hid ((w.alloc (.cells #[.string ⟨#[]⟩, .string ⟨#[]⟩, .int .i64 0, .slice none 0 0, .int .i64 0] 86)).heap[w.heap.size]? = some (.cells #[.string ⟨#[]⟩, .string ⟨#[]⟩, .int .i64 0, .slice none 0 0, .int .i64 0] 86 (0, 0))) := heap_alloc_new _ _
  clear hx hy ha hb hb0
  go_enter Try.func166, Try.ntmps166
  go_wp2_with fail
  refine (diffs_any A B ca cb a b _ (HX.out.next HB0.out) (HY.out.next HB0.out) (by omega) (by omega) hca hcb).mono ?_
  rintro e w1 ⟨v1, rfl, ho1, hb1⟩
  obtain ⟨D, dc, rfl⟩ := own_formD (l := diffM a b) ho1
  have HB1 := Lib.hid (below_after HB0.out hb1)
  have HD1 := Lib.hid (own_mono (base' := w.heap.size + 1) ho1 (by simp))
  have HN1 := Lib.hid ((hb1.block _ hsz).trans HE0.out)
  have hs1 : w.heap.size < w1.heap.size := Nat.lt_of_lt_of_le hsz hb1.size
  clear ho1 hb1
  go_wp2_with fail
  refine (pairsSum_any B cb b _ (HY.out.next HB1.out) (by omega) HBT.out.fine).mono ?_
  rintro e w2 ⟨rfl, hb2⟩
  have HB2 := Lib.hid (below_after HB1.out hb2)
  have HD2 := Lib.hid (own_below HD1.out hb2)
  have hn2 := (hb2.block _ hs1).trans HN1.out
  obtain ⟨u0, k0⟩ : ∃ u, w2.cell? ⟨w.heap.size, 0, none⟩ = some u := ⟨_, by rw [cell_of_row w2 _ 0 _ _ _ hn2]; rfl⟩
  obtain ⟨u1, k1⟩ : ∃ u, w2.cell? ⟨w.heap.size, 1, none⟩ = some u := ⟨_, by rw [cell_of_row w2 _ 1 _ _ _ hn2]; rfl⟩
  obtain ⟨u2, k2⟩ : ∃ u, w2.cell? ⟨w.heap.size, 2, none⟩ = some u := ⟨_, by rw [cell_of_row w2 _ 2 _ _ _ hn2]; rfl⟩
  obtain ⟨u3, k3⟩ : ∃ u, w2.cell? ⟨w.heap.size, 3, none⟩ = some u := ⟨_, by rw [cell_of_row w2 _ 3 _ _ _ hn2]; rfl⟩
  obtain ⟨u4, k4⟩ : ∃ u, w2.cell? ⟨w.heap.size, 4, none⟩ = some u := ⟨_, by rw [cell_of_row w2 _ 4 _ _ _ hn2]; rfl⟩
  have f0 : w2.frozen? ⟨w.heap.size, 0, none⟩ = false := Lib.frozen_of_heap hn2 0
  have f1 : w2.frozen? ⟨w.heap.size, 1, none⟩ = false := Lib.frozen_of_heap hn2 1
  have f2 : w2.frozen? ⟨w.heap.size, 2, none⟩ = false := Lib.frozen_of_heap hn2 2
  have f3 : w2.frozen? ⟨w.heap.size, 3, none⟩ = false := Lib.frozen_of_heap hn2 3
  have f4 : w2.frozen? ⟨w.heap.size, 4, none⟩ = false := Lib.frozen_of_heap hn2 4
  have HN2 := Lib.hid hn2
  clear hb2 hn2
  have hn5 := heap_set5 HN2.out (.string f) (.string t) (.int .i64 ch) (.slice D (diffM a b).length dc) (.int .i64 (sumP b))
  have HB5 : Below w.heap.size w (((((w2.setCell ⟨w.heap.size, 0, none⟩ (.string f)).setCell ⟨w.heap.size, 1, none⟩ (.string t)).setCell ⟨w.heap.size, 2, none⟩ (.int .i64 ch)).setCell ⟨w.heap.size, 3, none⟩ (.slice D (diffM a b).length dc)).setCell ⟨w.heap.size, 4, none⟩ (.int .i64 (sumP b))) := ((((HB2.out.setCell (p := ⟨w.heap.size, 0, none⟩) (Nat.le_refl _) _).setCell (p := ⟨w.heap.size, 1, none⟩) (Nat.le_refl _) _).setCell (p := ⟨w.heap.size, 2, none⟩) (Nat.le_refl _) _).setCell (p := ⟨w.heap.size, 3, none⟩) (Nat.le_refl _) _).setCell (p := ⟨w.heap.size, 4, none⟩) (Nat.le_refl _) _
  have HD5 := own_mono (base' := w.heap.size) (ownSet (ownSet (ownSet (ownSet (ownSet HD2.out (k := w.heap.size) (Nat.lt_succ_self _) 0 (.string f)) (k := w.heap.size) (Nat.lt_succ_self _) 1 (.string t)) (k := w.heap.size) (Nat.lt_succ_self _) 2 (.int .i64 ch)) (k := w.heap.size) (Nat.lt_succ_self _) 3 (.slice D (diffM a b).length dc)) (k := w.heap.size) (Nat.lt_succ_self _) 4 (.int .i64 (sumP b))) (Nat.le_succ _)
  have HH := Lib.hid (And.intro hn5 (And.intro HB5 HD5))
  clear hn5 HB5 HD5
  go_wp2_with fail
  generalize (((((w2.setCell ⟨w.heap.size, 0, none⟩ (.string f)).setCell ⟨w.heap.size, 1, none⟩ (.string t)).setCell ⟨w.heap.size, 2, none⟩ (.int .i64 ch)).setCell ⟨w.heap.size, 3, none⟩ (.slice D (diffM a b).length dc)).setCell ⟨w.heap.size, 4, none⟩ (.int .i64 (sumP b))) = W5 at HH ⊢
  obtain ⟨hn5, hb5, hd5⟩ := HH.out
  have c0 : W5.cell? ⟨w.heap.size, 0, none⟩ = some (.string f) := by rw [cell_of_row W5 _ 0 _ _ _ hn5]; rfl
  have c1 : W5.cell? ⟨w.heap.size, 1, none⟩ = some (.string t) := by rw [cell_of_row W5 _ 1 _ _ _ hn5]; rfl
  have c2 : W5.cell? ⟨w.heap.size, 2, none⟩ = some (.int .i64 ch) := by rw [cell_of_row W5 _ 2 _ _ _ hn5]; rfl
  have c3 : W5.cell? ⟨w.heap.size, 3, none⟩ = some (.slice D (diffM a b).length dc) := by rw [cell_of_row W5 _ 3 _ _ _ hn5]; rfl
  have c4 : W5.cell? ⟨w.heap.size, 4, none⟩ = some (.int .i64 (sumP b)) := by rw [cell_of_row W5 _ 4 _ _ _ hn5]; rfl
  refine bodyPost_ret (v := bkV f t ch D (diffM a b).length dc (sumP b)) (by simp [results, Try.results166, go_sem, c0, c1, c2, c3, c4]) rfl ⟨D, dc, rfl, hd5, hb5⟩
theorem bk_stored {w w3 : World} {f t : ByteArray} {ch sm : Int} {D : Option Addr} {l : List Df} {dc T : Nat} {a0 a1 a2 a3 a4 : Value} (hn : w3.heap[w.heap.size]? = some (.cells #[a0, a1, a2, a3, a4] T (0, 0))) (hb : Below w.heap.size w w3) (ho : w3.ownsRow (w.heap.size + 1) 145 5 (.slice D l.length dc) l.length (flat encD l)) :
    let W := ((((w3.setCell ⟨w.heap.size, 0, none⟩ (.string f)).setCell ⟨w.heap.size, 1, none⟩ (.string t)).setCell ⟨w.heap.size, 2, none⟩ (.int .i64 ch)).setCell ⟨w.heap.size, 3, none⟩ (.slice D l.length dc)).setCell ⟨w.heap.size, 4, none⟩ (.int .i64 sm)
    W.cell? ⟨w.heap.size, 0, none⟩ = some (.string f) ∧ W.cell? ⟨w.heap.size, 1, none⟩ = some (.string t) ∧ W.cell? ⟨w.heap.size, 2, none⟩ = some (.int .i64 ch) ∧ W.cell? ⟨w.heap.size, 3, none⟩ = some (.slice D l.length dc) ∧ W.cell? ⟨w.heap.size, 4, none⟩ = some (.int .i64 sm) ∧ Below w.heap.size w W ∧ W.ownsRow w.heap.size 145 5 (.slice D l.length dc) l.length (flat encD l) := by
  intro W
  have hn5 : W.heap[w.heap.size]? = _ := heap_set5 hn (.string f) (.string t) (.int .i64 ch) (.slice D l.length dc) (.int .i64 sm)
  refine ⟨by rw [cell_of_row W _ 0 _ _ _ hn5]; rfl, by rw [cell_of_row W _ 1 _ _ _ hn5]; rfl, by rw [cell_of_row W _ 2 _ _ _ hn5]; rfl, by rw [cell_of_row W _ 3 _ _ _ hn5]; rfl, by rw [cell_of_row W _ 4 _ _ _ hn5]; rfl, ?_, ?_⟩
  · exact ((((hb.setCell (p := ⟨w.heap.size, 0, none⟩) (Nat.le_refl _) _).setCell (p := ⟨w.heap.size, 1, none⟩) (Nat.le_refl _) _).setCell (p := ⟨w.heap.size, 2, none⟩) (Nat.le_refl _) _).setCell (p := ⟨w.heap.size, 3, none⟩) (Nat.le_refl _) _).setCell (p := ⟨w.heap.size, 4, none⟩) (Nat.le_refl _) _
  · exact own_mono (base' := w.heap.size) (ownSet (ownSet (ownSet (ownSet (ownSet ho (k := w.heap.size) (Nat.lt_succ_self _) 0 (.string f)) (k := w.heap.size) (Nat.lt_succ_self _) 1 (.string t)) (k := w.heap.size) (Nat.lt_succ_self _) 2 (.int .i64 ch)) (k := w.heap.size) (Nat.lt_succ_self _) 3 (.slice D l.length dc)) (k := w.heap.size) (Nat.lt_succ_self _) 4 (.int .i64 sm)) (Nat.le_succ _)
set_option maxRecDepth 100000 in
set_option maxHeartbeats 1000000 in
theorem implMakeBackup_any (f t : ByteArray) (ch : Int) (A B : Option Addr) (ca cb : Nat) (a b : List Pr) (w : World) (hx : Rd w w.heap.size A (flat encP a)) (hy : Rd w w.heap.size B (flat encP b)) (ha : Told a) (hb : Told b) (hca : a.length ≤ ca) (hcb : b.length ≤ cb) (hh : headB f t ch = true) (hfa : f = ⟨#[]⟩ → a.length ≤ 0) :
    Calls Try.prog 86 #[.string f, .string t, .int .i64 ch, .slice A a.length ca, .slice B b.length cb] w (MadeBk f t ch a b (fun v => .tuple #[v, .int .i64 0]) w) := by
  have h1 := ha.len
  have h2 := hb.len
  obtain ⟨z1, z2, _, _⟩ := headB_parts hh
  have HX := Lib.hid hx
  have HY := Lib.hid hy
  have HAT := Lib.hid ha
  have HBT := Lib.hid hb
  have HH := Lib.hid (fun W => headOK_any f t ch W (Nat.le_trans z1 (by simp only [maxLen]; omega)) (Nat.le_trans z2 (by simp only [maxLen]; omega)))
  rw [hh] at HH
  have hb0 : Below w.heap.size w (w.alloc (.cells #[.string ⟨#[]⟩, .string ⟨#[]⟩, .int .i64 0, .slice none 0 0, .int .i64 0] 86)) := by repeat (first | exact Below.refl _ _ | assumption | refine Below.drew ?_ | refine below_drewN ?_ _ | refine Below.setCell ?_ (by first | exact Nat.le_refl _ | exact Below.size (by assumption) | (simp; done) | (simp; omega) | omega) _ | refine Below.alloc ?_ (by first | exact Nat.le_refl _ | exact Below.size (by assumption) | (simp; done) | (simp; omega) | omega) _)
  have HB0 := Lib.hid hb0
  have hsz : w.heap.size < (w.alloc (.cells #[.string ⟨#[]⟩, .string ⟨#[]⟩, .int .i64 0, .slice none 0 0, .int .i64 0] 86)).heap.size := by simp
  have HE0 : Hid ((w.alloc (.cells #[.string ⟨#[]⟩, .string ⟨#[]⟩, .int .i64 0, .slice none 0 0, .int .i64 0] 86)).heap[w.heap.size]? = some (.cells #[.string ⟨#[]⟩, .string ⟨#[]⟩, .int .i64 0, .slice none 0 0, .int .i64 0] 86 (0, 0))) := heap_alloc_new _ _
  have HC1 := Lib.hid (implPairsOK_any A ca a _ (HX.out.next HB0.out) (by omega) ha.sz)
  rw [ha.ok] at HC1
  have HC2 := Lib.hid (fun (W : World) (hW : Rd W W.heap.size B (flat encP b)) => implPairsOK_any B cb b W hW (by omega) hb.sz)
  rw [hb.ok] at HC2
  clear hx hy ha hb hb0 hh
  by_cases he : f = ⟨#[]⟩
  all_goals
    first
    | (have ha0 : a.length ≤ 0 := hfa he
       have e1 : f.toList.isEmpty = true := by rw [he, ByteArray.toList_eq]; rfl
       clear he)
    | (have e1 : f.toList.isEmpty = false := notEmpty he
       clear he)
    clear hfa
    go_enter Try.func86, Try.ntmps86
    go_wp2_with fail
    refine HC1.out.mono ?_
    rintro e w1 ⟨rfl, hb1⟩
    have HN1 := Lib.hid ((hb1.block _ hsz).trans HE0.out)
    have hs1 : w.heap.size < w1.heap.size := Nat.lt_of_lt_of_le hsz hb1.size
    have HB1 := Lib.hid (below_after HB0.out hb1)
    clear hb1 HC1
    go_wp2_with fail
    refine (HC2.out _ (HY.out.next HB1.out)).mono ?_
    rintro e w2 ⟨rfl, hb2⟩
    have HN2 := Lib.hid ((hb2.block _ hs1).trans HN1.out)
    have hs2 : w.heap.size < w2.heap.size := Nat.lt_of_lt_of_le hs1 hb2.size
    have HB2 := Lib.hid (below_after HB1.out hb2)
    clear hb2 HC2
    go_wp2_with fail
    refine (HH.out _).mono ?_
    rintro e w2' ⟨rfl, rfl⟩
    go_wp2_with fail
    refine (makeBackup_any f t ch A B ca cb a b _ (HX.out.next HB2.out) (HY.out.next HB2.out) HAT.out HBT.out hca hcb).mono ?_
    rintro e w3 ⟨D, dc, rfl, hd3, hb3⟩
    simp only [id]
    have HB3 := Lib.hid (below_after HB2.out hb3)
    have hn3 := (hb3.block _ hs2).trans HN2.out
    have ho3 := own_mono (base' := w.heap.size + 1) hd3 hs2
    obtain ⟨u0, k0⟩ : ∃ u, w3.cell? ⟨w.heap.size, 0, none⟩ = some u := ⟨_, by rw [cell_of_row w3 _ 0 _ _ _ hn3]; rfl⟩
    obtain ⟨u1, k1⟩ : ∃ u, w3.cell? ⟨w.heap.size, 1, none⟩ = some u := ⟨_, by rw [cell_of_row w3 _ 1 _ _ _ hn3]; rfl⟩
    obtain ⟨u2, k2⟩ : ∃ u, w3.cell? ⟨w.heap.size, 2, none⟩ = some u := ⟨_, by rw [cell_of_row w3 _ 2 _ _ _ hn3]; rfl⟩
    obtain ⟨u3, k3⟩ : ∃ u, w3.cell? ⟨w.heap.size, 3, none⟩ = some u := ⟨_, by rw [cell_of_row w3 _ 3 _ _ _ hn3]; rfl⟩
    obtain ⟨u4, k4⟩ : ∃ u, w3.cell? ⟨w.heap.size, 4, none⟩ = some u := ⟨_, by rw [cell_of_row w3 _ 4 _ _ _ hn3]; rfl⟩
    have f0 : w3.frozen? ⟨w.heap.size, 0, none⟩ = false := Lib.frozen_of_heap hn3 0
    have f1 : w3.frozen? ⟨w.heap.size, 1, none⟩ = false := Lib.frozen_of_heap hn3 1
    have f2 : w3.frozen? ⟨w.heap.size, 2, none⟩ = false := Lib.frozen_of_heap hn3 2
    have f3 : w3.frozen? ⟨w.heap.size, 3, none⟩ = false := Lib.frozen_of_heap hn3 3
    have f4 : w3.frozen? ⟨w.heap.size, 4, none⟩ = false := Lib.frozen_of_heap hn3 4
    have HK := Lib.hid (bk_stored (f := f) (t := t) (ch := ch) (sm := sumP b) hn3 HB3.out ho3)
    clear hd3 hb3 hn3 ho3
    go_wp2_with fail
    generalize (((((w3.setCell ⟨w.heap.size, 0, none⟩ (.string f)).setCell ⟨w.heap.size, 1, none⟩ (.string t)).setCell ⟨w.heap.size, 2, none⟩ (.int .i64 ch)).setCell ⟨w.heap.size, 3, none⟩ (.slice D (diffM a b).length dc)).setCell ⟨w.heap.size, 4, none⟩ (.int .i64 (sumP b))) = W5 at HK ⊢
    obtain ⟨c0, c1, c2, c3, c4, hb5, ho5⟩ := HK.out
    refine bodyPost_ret (v := .tuple #[bkV f t ch D (diffM a b).length dc (sumP b), .int .i64 0]) (by simp [results, Try.results86, go_sem, c0, c1, c2, c3, c4]) rfl ⟨D, dc, rfl, ho5, hb5⟩
end Go.Proofs.Ytlfnpnkpjdmonaa
namespace Go.Proofs.Ytlfnpnkpjdmonaa
open Go.RowKit

set_option maxRecDepth 100000 in
set_option maxHeartbeats 1000000 in
theorem implReplay_any (A : Option Addr) (ca : Nat) (l : List Pr) (last : ByteArray) (chain : Int) (m : Bk) (w : World) (hx : Rd w w.heap.size A (flat encP l)) (hy : Rd w w.heap.size m.D (flat encD m.ds)) (hl : Told l) (hok : m.ok = true) (hn : A = none → ca = 0) (hs : last.size ≤ 65535) :
    Calls Try.prog 87 #[.slice A l.length ca, .string last, .int .i64 chain, bkV m.f m.t m.ch m.D m.ds.length m.dc m.sm] w (MadeT (repR l last chain m).1 (repR l last chain m).2 w) := by
  have hr := Bk.ok_r hok
  have hll := hl.len
  have hb0 : Below w.heap.size w (w.alloc (.cells #[.string m.f, .string m.t, .int .i64 m.ch, .slice m.D m.ds.length m.dc, .int .i64 m.sm] 86)) := by repeat (first | exact Below.refl _ _ | assumption | refine Below.drew ?_ | refine below_drewN ?_ _ | refine Below.setCell ?_ (by first | exact Nat.le_refl _ | exact Below.size (by assumption) | (simp; done) | (simp; omega) | omega) _ | refine Below.alloc ?_ (by first | exact Nat.le_refl _ | exact Below.size (by assumption) | (simp; done) | (simp; omega) | omega) _)
  have hsz : w.heap.size < (w.alloc (.cells #[.string m.f, .string m.t, .int .i64 m.ch, .slice m.D m.ds.length m.dc, .int .i64 m.sm] 86)).heap.size := by simp
  have HE0 : Hid ((w.alloc (.cells #[.string m.f, .string m.t, .int .i64 m.ch, .slice m.D m.ds.length m.dc, .int .i64 m.sm] 86)).heap[w.heap.size]? = some (.cells #[.string m.f, .string m.t, .int .i64 m.ch, .slice m.D m.ds.length m.dc, .int .i64 m.sm] 86 (0, 0))) := heap_alloc_new _ _
  have HB0 := Lib.hid hb0
  have HR := Lib.hid hr
  have HX := Lib.hid hx
  have HY := Lib.hid hy
  have HL := Lib.hid hl
  have HN := Lib.hid hn
  have HC1 := Lib.hid (implPairsOK_any A ca l _ (hx.next hb0) (by omega) hl.sz)
  rw [hl.ok] at HC1
  have HC2 : Hid (∀ W : World, Rd W W.heap.size m.D (flat encD m.ds) → Calls Try.prog 70 #[bkV m.f m.t m.ch m.D m.ds.length m.dc m.sm] W fun e w' => e = .returned (.bool true) ∧ Below W.heap.size W w') := fun W hW => by
    have hz := hr.sz hW
    have := implBackupOK_any m.f m.t m.ch m.D m.ds m.dc m.sm W hW hz.dl hz.fl hz.tl hz.ds
    rwa [show bkB m.f m.t m.ch m.ds m.sm = m.ok from rfl, hok] at this
  clear hx hy hl hb0 hr hok hn
  go_enter Try.func87, Try.ntmps87
  go_wp2_with fail
  refine HC1.out.mono ?_
  rintro e w1 ⟨rfl, hb1⟩
  have hn1 := (hb1.block _ hsz).trans HE0.out
  have c0 : w1.cell? ⟨w.heap.size, 0, none⟩ = some (.string m.f) := by rw [cell_of_row w1 _ 0 _ _ _ hn1]; rfl
  have c1 : w1.cell? ⟨w.heap.size, 1, none⟩ = some (.string m.t) := by rw [cell_of_row w1 _ 1 _ _ _ hn1]; rfl
  have c2 : w1.cell? ⟨w.heap.size, 2, none⟩ = some (.int .i64 m.ch) := by rw [cell_of_row w1 _ 2 _ _ _ hn1]; rfl
  have c3 : w1.cell? ⟨w.heap.size, 3, none⟩ = some (.slice m.D m.ds.length m.dc) := by rw [cell_of_row w1 _ 3 _ _ _ hn1]; rfl
  have c4 : w1.cell? ⟨w.heap.size, 4, none⟩ = some (.int .i64 m.sm) := by rw [cell_of_row w1 _ 4 _ _ _ hn1]; rfl
  have hs1 : w.heap.size < w1.heap.size := Nat.lt_of_lt_of_le hsz hb1.size
  have HN1 := Lib.hid hn1
  have HB1 := Lib.hid (below_after HB0.out hb1)
  clear hb1 hn1 HC1
  go_wp2_with fail
  refine (HC2.out _ (HY.out.next HB1.out)).mono ?_
  rintro e w2 ⟨rfl, hb2⟩
  have hn2 := (hb2.block _ hs1).trans HN1.out
  have k0 : w2.cell? ⟨w.heap.size, 0, none⟩ = some (.string m.f) := by rw [cell_of_row w2 _ 0 _ _ _ hn2]; rfl
  have k1 : w2.cell? ⟨w.heap.size, 1, none⟩ = some (.string m.t) := by rw [cell_of_row w2 _ 1 _ _ _ hn2]; rfl
  have k2 : w2.cell? ⟨w.heap.size, 2, none⟩ = some (.int .i64 m.ch) := by rw [cell_of_row w2 _ 2 _ _ _ hn2]; rfl
  have k3 : w2.cell? ⟨w.heap.size, 3, none⟩ = some (.slice m.D m.ds.length m.dc) := by rw [cell_of_row w2 _ 3 _ _ _ hn2]; rfl
  have k4 : w2.cell? ⟨w.heap.size, 4, none⟩ = some (.int .i64 m.sm) := by rw [cell_of_row w2 _ 4 _ _ _ hn2]; rfl
  have HB2 := Lib.hid (below_after HB1.out hb2)
  clear hb2 hn2 HC2 c0 c1 c2 c3 c4
  go_wp2_with fail
  refine (replay_any A ca l last chain m _ (HX.out.next HB2.out) (HY.out.next HB2.out) HL.out HR.out HN.out).mono ?_
  rintro e w3 ⟨v, rfl, ho3, hb3⟩
  have HO := Lib.hid (own_mono ho3 HB2.out.size)
  have HB3 := Lib.hid (below_after HB2.out hb3)
  clear ho3 hb3
  go_wp2_with fail
  go_ret2
  exact ⟨_, rfl, HO.out, HB3.out⟩
set_option maxRecDepth 100000 in
theorem implReplayAll_any (A : Option Addr) (c : Nat) (ms : List Bk) (w : World) (hx : Rd w w.heap.size A (flat encBk ms)) (hd : ∀ m ∈ ms, Rd w w.heap.size m.D (flat encD m.ds)) (hok : ∀ m ∈ ms, m.ok = true) (hl : ms.length ≤ 20) :
    Calls Try.prog 88 #[.slice A ms.length c] w (MadeT (repA [] ⟨#[]⟩ 0 ms).1 (repA [] ⟨#[]⟩ 0 ms).2 w) := by
  have HX := Lib.hid hx
  have HD := Lib.hid hd
  have HR := Lib.hid (fun m hm => Bk.ok_r (hok m hm))
  have HC := Lib.hid (containsBk_any A c ms w hx (fun m hm => (Bk.ok_r (hok m hm)).sz (hd m hm)) (by omega))
  rw [show (ms.any fun m => !m.ok) = false from List.any_eq_false.2 fun m hm => by rw [hok m hm]; simp] at HC
  clear hx hd hok
  go_enter Try.func88, Try.ntmps88
  go_wp2_with fail
  refine HC.out.mono ?_
  rintro e w1 ⟨rfl, hb1⟩
  have HB1 := Lib.hid hb1
  clear hb1
  go_wp2_with fail
  refine (replayAll_any A c ms _ (HX.out.next HB1.out) (fun m hm => (HD.out m hm).next HB1.out) HR.out (by omega)).mono ?_
  rintro e w2 ⟨v, rfl, ho, hb⟩
  have HO := Lib.hid (own_mono ho HB1.out.size)
  have HB := Lib.hid (below_after HB1.out hb)
  clear ho hb
  go_wp2_with fail
  go_ret2
  exact ⟨_, rfl, HO.out, HB.out⟩
end Go.Proofs.Ytlfnpnkpjdmonaa
