import Derived.Test.YtlfnpnkpjdmonaaPairApi
set_option linter.unusedVariables false
set_option linter.unusedSimpArgs false
namespace Go.Proofs.Ytlfnpnkpjdmonaa
open Go.RowKit

set_option maxRecDepth 100000 in
theorem samePairs_any (A B : Option Addr) (c d : Nat) (xs ys : List Pr) (w : World) (hx : Rd w w.heap.size A (flat encP xs)) (hy : Rd w w.heap.size B (flat encP ys)) (hl : xs.length ≤ maxLen) (hl' : ys.length ≤ maxLen) :
    Calls Try.prog 56 #[.slice A xs.length c, .slice B ys.length d] w fun e w' => e = .returned (.bool (decide (xs = ys))) ∧ ∃ n, w' = w.drewN n := by
  unfold maxLen at hl hl'
  generalize hr : decide (xs = ys) = r
  have HR := Lib.hid hr
  clear hr
  by_cases hne : xs.length = ys.length
  · have HX := Lib.hid hx
    have HY := Lib.hid hy
    clear hx hy
    have hb0 : ((xs.length : Int) != (ys.length : Int)) = false := by rw [hne]; simp
    have hle : xs.length ≤ ys.length := by omega
    have hge : ys.length ≤ xs.length := by omega
    clear hne
    go_enter Try.func56, Try.ntmps56
    go_wp2
    go_loopw [5] (fun i wr => ∃ k q : Nat, k ≤ xs.length ∧ i = .int .i64 k ∧ xs.take k = ys.take k ∧ wr = w.drewN q) (fun i _ => xs.length - (intOf i).toNat)
    case atStart => exact ⟨0, 0, Nat.zero_le _, rfl, rfl, rfl⟩
    case round =>
      obtain ⟨k, q, hk, rfl, ht, rfl⟩ := hrel
      have HT := Lib.hid ht
      clear ht
      by_cases hlt : k < xs.length
      · have hlt' : k < ys.length := by omega
        obtain ⟨ad, rfl, _, hca, hcb⟩ := HX.out.pr hlt
        obtain ⟨bd, rfl, _, hda, hdb⟩ := HY.out.pr hlt'
        have hg : ∀ (op : BinOp) (x y : Operand) (w : World), (eqGuard op 82 x y (.agg #[.string xs[k].1, .string xs[k].2]) (.agg #[.string ys[k].1, .string ys[k].2])).run Try.prog w = .ok () w := fun op x y w => prEqGuard op x y xs[k] ys[k] w
        cases he : decide (xs[k] = ys[k]) with
        | true =>
          have hq : ∀ w : World, (binOp .neq 82 (.agg #[.string xs[k].1, .string xs[k].2]) (.agg #[.string ys[k].1, .string ys[k].2])).run Try.prog w = .ok (.bool false) w := fun w => by rw [prNeq, prNe he]; rfl
          have HE := Lib.hid he
          clear he
          go_wp2
          go_quiet (fail)
          go_wp2
          go_roundw
          case rel => exact ⟨k + 1, _, by omega, by go_num, take_eq_succ hlt hlt' HT.out (of_decide_eq_true HE.out), rfl⟩
          case measure => simp [intOf]; omega
        | false =>
          have hq : ∀ w : World, (binOp .neq 82 (.agg #[.string xs[k].1, .string xs[k].2]) (.agg #[.string ys[k].1, .string ys[k].2])).run Try.prog w = .ok (.bool true) w := fun w => by rw [prNeq, prNe he]; rfl
          have HE := Lib.hid he
          clear he
          go_wp2
          go_quiet (fail)
          go_wp2
          go_ret
          exact ⟨by rw [show r = false from HR.out.symm.trans (ne_of_at' hlt hlt' HE.out)]; rfl, _, (by rw [World.drewN_drewN])⟩
      · go_wp2
        go_ret
        exact ⟨(by rw [show r = true from HR.out.symm.trans (decide_eq_true (by have := HT.out; rwa [List.take_of_length_le (by omega), List.take_of_length_le (by omega)] at this))]; rfl), _, rfl⟩
  · have hf : r = false := by
      rw [← HR.out]
      simp
      intro h
      exact hne (by rw [h])
    subst hf
    clear hx hy HR
    have hb0 : ((xs.length : Int) != (ys.length : Int)) = true := by simp; omega
    clear hne
    go_enter Try.func56, Try.ntmps56
    go_wp2
    go_ret
    exact ⟨rfl, 0, rfl⟩


/-! ### the plain law -/
theorem prefix_less : ∀ s p : List UInt8, p.isPrefixOf s = true → Op.bytesLess s p = false
  | [], [], _ => rfl
  | _ :: _, [], _ => rfl
  | [], _ :: _, h => by simp at h
  | a :: s, b :: p, h => by
    simp only [List.isPrefixOf_cons_cons, Bool.and_eq_true, beq_iff_eq] at h
    obtain ⟨rfl, h⟩ := h
    simp [Op.bytesLess, prefix_less s p h]
theorem keep_lt {k : ByteArray} {p : Pr} (h : keepK k p = true) : lt p.1 k = false := by
  unfold lt
  refine prefix_less _ _ ?_
  rw [← toL, ← toL]
  exact h
theorem keep_self (k v : ByteArray) : keepK k (k, v) = true := by
  unfold keepK pre Lib.hasPrefix
  exact List.isPrefixOf_iff_prefix.2 (List.prefix_refl _)
theorem under_head {l : List Pr} (h : Rise l) {k v : ByteArray} (hm : (k, v) ∈ l) : ∃ hd tl, l.filter (keepK k) = hd :: tl ∧ hd.1 = k := by
  have hr := rise_filter h (keepK k)
  have hm2 : (k, v) ∈ l.filter (keepK k) := List.mem_filter.2 ⟨hm, keep_self k v⟩
  have hall : ∀ q ∈ l.filter (keepK k), lt q.1 k = false := fun q hq => keep_lt (List.mem_filter.1 hq).2
  generalize l.filter (keepK k) = F at hr hm2 hall ⊢
  cases F with
  | nil => cases hm2
  | cons hd tl =>
    refine ⟨hd, tl, rfl, ?_⟩
    rcases List.mem_cons.1 hm2 with e | h2
    · rw [← e]
    · have h3 := hr.1 _ h2
      rw [hall hd (List.mem_cons_self ..)] at h3
      cases h3
/-- what holds of drawn pairs, a key, and a value -/
structure PL (l : List Pr) (k x : ByteArray) : Prop where
  asked : Askd l k
  asked1 : Askd (putP l k x) k
  hit1 : hitP (putP l k x) k = true
  val1 : valP (putP l k x) k = x
  asked2 : Askd (dropP (putP l k x) k) k
  hit2 : hitP (dropP (putP l k x) k) k = false
  under : ∃ hd tl, (putP l k x).filter (keepK k) = hd :: tl ∧ hd.1 = k
  each : ∀ p ∈ l, p.1 ≠ k → Askd (putP l k x) p.1 ∧ hitP (putP l k x) p.1 = true ∧ valP (putP l k x) p.1 = p.2 ∧ Askd (dropP (putP l k x) k) p.1 ∧ hitP (dropP (putP l k x) k) p.1 = true ∧ valP (dropP (putP l k x) k) p.1 = p.2
theorem pairB_key {p : Pr} (h : pairB p = true) : withinB p.1.size 1 30 = true := by
  simp only [pairB, Bool.and_eq_true, decide_eq_true_eq] at h
  simp [withinB]
  omega
theorem pl_drawn {l : List Pr} (h : DrawnP l) {k x : ByteArray} (hkx : pairB (k, x) = true) : PL l k x := by
  obtain ⟨h1, h2, h3⟩ := h
  have hk : withinB k.size 1 30 = true := pairB_key hkx
  have hlP := len_putP l k x
  have hrP := rise_putP h2 k x
  have hmP := mem_putP h2 k x
  have hfP : ∀ p ∈ putP l k x, pairB p = true := fun p hp => by
    rcases (hmP p).1 hp with rfl | ⟨hp, _⟩
    · exact hkx
    · exact h3 p hp
  have hin : (k, x) ∈ putP l k x := (hmP _).2 (.inl rfl)
  have hlD : (dropP (putP l k x) k).length ≤ (putP l k x).length := List.length_filter_le _ _
  have hrD := rise_dropP hrP k
  have hfD : ∀ p ∈ dropP (putP l k x) k, pairB p = true := fun p hp => hfP p ((mem_dropP _ _ _).1 hp).1
  refine ⟨⟨by omega, h2, h3, hk⟩, ⟨by omega, hrP, hfP, hk⟩, (hit_of_mem hrP hin).1, val_of_mem hrP hin, ⟨by omega, hrD, hfD, hk⟩, miss_of fun q hq => ((mem_dropP _ _ _).1 hq).2, under_head hrP hin, fun p hp hne => ?_⟩
  have hpP : p ∈ putP l k x := (hmP p).2 (.inr ⟨hp, hne⟩)
  have hpD : p ∈ dropP (putP l k x) k := (mem_dropP _ _ _).2 ⟨hpP, hne⟩
  have hpk := pairB_key (h3 p hp)
  exact ⟨⟨by omega, hrP, hfP, hpk⟩, (hit_of_mem hrP hpP).1, val_of_mem hrP hpP, ⟨by omega, hrD, hfD, hpk⟩, (hit_of_mem hrD hpD).1, val_of_mem hrD hpD⟩
theorem own_form2 {w : World} {base : Nat} {l : List Pr} {v : Value} (h : w.ownsRow base 82 2 v l.length (flat encP l)) : ∃ A c, v = .slice A l.length c ∧ (A = none → c = 0) := by
  rcases h.2 with ⟨h', h1⟩ | ⟨g, cap, cur, h', _, _, h2, _⟩
  · exact ⟨none, 0, by rw [h', h1], fun _ => rfl⟩
  · exact ⟨_, cap, h', fun e => by cases e⟩
set_option maxRecDepth 100000 in
set_option maxHeartbeats 4000000 in
theorem lawPairs_any (A B : Option Addr) (c d : Nat) (xs ys : List UInt8) (w : World) (hx : Rd w w.heap.size A (xs.map bv)) (hy : Rd w w.heap.size B (ys.map bv)) (hm : xs.length ≤ maxLen) (hm' : ys.length ≤ maxLen) :
    Calls Try.prog 11 #[.slice A xs.length c, .slice B ys.length d] w fun e w' => e = .returned (.bool true) ∧ Below w.heap.size w w' := by
  unfold maxLen at hm hm'
  by_cases hbig : 1048576 < xs.length
  · go_enter Try.func11, Try.ntmps11
    go_wp2
    go_ret
    exact ⟨rfl, Below.refl _ _⟩
  · by_cases hbig2 : 1048576 < ys.length
    · go_enter Try.func11, Try.ntmps11
      go_wp2
      go_ret
      exact ⟨rfl, Below.refl _ _⟩
    · have HX := Lib.hid hx
      have HY := Lib.hid hy
      clear hx hy
      go_enter Try.func11, Try.ntmps11
      go_wp2_with fail
      refine (pairsOf_any A c xs _ HX.out (by omega)).mono ?_
      rintro e w1 ⟨q, qc, l, rfl, hdr, ho, hb1⟩
      have hq : l.length ≤ qc := by
        obtain ⟨_, _, e, h⟩ := own_form ho
        cases e
        exact h
      have hl11 : l.length ≤ 11 := hdr.1
      have HL1 := Lib.hid (Rd.own ho)
      have HD := Lib.hid hdr
      have HB1 := Lib.hid hb1
      have HY1 := Lib.hid (HY.out.next hb1)
      clear ho hdr hb1 HX HY
      go_wp2_with fail
      refine (keyOf_any B d ys _ HY1.out (by omega)).mono ?_
      rintro e w2 ⟨x, hxm, rfl, hb2⟩
      obtain ⟨k, hk⟩ : ∃ k, k = bs x := ⟨_, rfl⟩
      rw [← hk]
      have HPL : Hid (PL l k ⟨#[110, 101, 119, 32, 118, 97, 108, 117, 101]⟩) := by
        refine pl_drawn HD.out ?_
        have h1 := key_size hxm
        have e1 : k.size = x.length := by rw [hk]; simp [ByteArray.size]
        unfold pairB
        simp only [e1, Bool.and_eq_true, decide_eq_true_eq]
        exact ⟨by omega, by decide⟩
      have HL2 := Lib.hid (HL1.out.next hb2)
      have HB2 := Lib.hid (below_after HB1.out hb2)
      clear hb2 hxm hk HL1 HB1 HD HY1
      go_wp2_with fail
      refine (pairPut_any _ qc l k _ _ HPL.out.asked (fun h => by cases h) (by decide) HL2.out).mono ?_
      rintro e w3 ⟨v3, rfl, ho3, hb3⟩
      obtain ⟨P, hP⟩ : ∃ P, P = putP l k ⟨#[110, 101, 119, 32, 118, 97, 108, 117, 101]⟩ := ⟨_, rfl⟩
      obtain ⟨D, hDD⟩ : ∃ D, D = dropP P k := ⟨_, rfl⟩
      have HPL2 := HPL
      have hPl : 0 < P.length := by rw [hP]; unfold putP; simp; omega
      rw [← hP] at ho3
      obtain ⟨g3, c3, rfl, hpc⟩ := own_some ho3 hPl
      have h59 : P.length ≤ 59 := by rw [hP]; exact HPL.out.asked1.len
      have HP3 := Lib.hid (Rd.own ho3)
      have HL3 := Lib.hid (HL2.out.next hb3)
      have HB3 := Lib.hid (below_after HB2.out hb3)
      have HE := Lib.hid hP
      have HED := Lib.hid hDD
      clear ho3 hb3 HL2 HB2 hP hDD
      go_wp2_with fail
      refine (pairPutS_any q qc l k _ _ HPL.out.asked hq (by decide) HL3.out).mono ?_
      rw [← HE.out]
      rintro e w4 ⟨v4, rfl, ho4, hb4⟩
      obtain ⟨g4, c4, rfl, hpc4⟩ := own_some ho4 hPl
      have HP4 := Lib.hid (Rd.own ho4)
      have HQ4 := Lib.hid (HP3.out.next hb4)
      have HL4 := Lib.hid (HL3.out.next hb4)
      have HB4 := Lib.hid (below_after HB3.out hb4)
      clear ho4 hb4 HL3 HB3 HP3
      have HF : Hid (PL l k ⟨#[110, 101, 119, 32, 118, 97, 108, 117, 101]⟩ ∧ Askd P k ∧ hitP P k = true ∧ valP P k = ⟨#[110, 101, 119, 32, 118, 97, 108, 117, 101]⟩ ∧ Askd D k ∧ hitP D k = false ∧ (∃ hd tl, P.filter (keepK k) = hd :: tl ∧ hd.1 = k) ∧ ∀ p ∈ l, p.1 ≠ k → Askd P p.1 ∧ hitP P p.1 = true ∧ valP P p.1 = p.2 ∧ Askd D p.1 ∧ hitP D p.1 = true ∧ valP D p.1 = p.2) := by
        have h := HPL.out
        rw [HED.out, HE.out]
        exact ⟨h, h.asked1, h.hit1, h.val1, h.asked2, h.hit2, h.under, h.each⟩
      clear HPL HPL2
      obtain ⟨_, hf1, hf2, hf3, hf4, hf5, hf6, hf7⟩ := HF.out
      have H1 := Lib.hid hf1
      have H2 := Lib.hid hf2
      have H3 := Lib.hid hf3
      have H4 := Lib.hid hf4
      have H5 := Lib.hid hf5
      have H7 := Lib.hid hf7
      obtain ⟨hd, tl, hU, hhd⟩ := hf6
      have HU := Lib.hid hU
      clear hf1 hf2 hf3 hf4 hf5 hf7 hU HF
      go_wp2_with fail
      refine (pairGet_any _ c3 P k _ H1.out HQ4.out).mono ?_
      rw [H2.out, H3.out]
      rintro e w5 ⟨rfl, hb5⟩
      have HP5 := Lib.hid (HP4.out.next hb5)
      have HQ5 := Lib.hid (HQ4.out.next hb5)
      have HL5 := Lib.hid (HL4.out.next hb5)
      have HB5 := Lib.hid (below_after HB4.out hb5)
      clear hb5 HP4 HQ4 HL4 HB4
      go_wp2_with fail
      refine (pairDrop_any _ c3 P k _ H1.out H2.out (fun h => by cases h) HQ5.out).mono ?_
      rw [← HED.out]
      rintro e w6 ⟨v6, rfl, ho6, hb6⟩
      obtain ⟨A6, c6, rfl, hn6⟩ := own_form2 ho6
      have HD6 := Lib.hid (Rd.own ho6)
      have HP6 := Lib.hid (HP5.out.next hb6)
      have HQ6 := Lib.hid (HQ5.out.next hb6)
      have HL6 := Lib.hid (HL5.out.next hb6)
      have HB6 := Lib.hid (below_after HB5.out hb6)
      clear hb6 ho6 HP5 HQ5 HL5 HB5 hn6
      go_wp2_with fail
      refine (pairGet_any A6 c6 D k _ H4.out HD6.out).mono ?_
      rw [H5.out]
      rintro e w7 ⟨rfl, hb7⟩
      have HP7 := Lib.hid (HP6.out.next hb7)
      have HQ7 := Lib.hid (HQ6.out.next hb7)
      have HL7 := Lib.hid (HL6.out.next hb7)
      have HD7 := Lib.hid (HD6.out.next hb7)
      have HB7 := Lib.hid (below_after HB6.out hb7)
      clear hb7 HP6 HQ6 HL6 HB6 HD6
      go_wp2_with fail
      refine (pairsUnder_any _ c3 P k _ H1.out (fun h => by cases h) HQ7.out).mono ?_
      rw [HU.out]
      rintro e w8 ⟨v8, rfl, ho8, hb8⟩
      obtain ⟨g8, c8, rfl, _⟩ := own_some ho8 (by simp)
      have hul : ((tl.length : Int) + 1 == 0) = false := by rw [beq_eq_false_iff_ne]; omega
      obtain ⟨hca, hcb⟩ : w8.cell? ⟨g8, 0, none⟩ = some (.string hd.1) ∧ w8.cell? ⟨g8, 1, none⟩ = some (.string hd.2) := by
        obtain ⟨ad, e, _, h1, h2⟩ := (Rd.own ho8).pr (i := 0) (by simp)
        injection e with e
        subst e
        simpa only [Nat.zero_mul, addr_lit, Nat.zero_add, List.getElem_cons_zero] using And.intro h1 h2
      rw [hhd] at hca
      have HP8 := Lib.hid (HP7.out.next hb8)
      have HQ8 := Lib.hid (HQ7.out.next hb8)
      have HL8 := Lib.hid (HL7.out.next hb8)
      have HD8 := Lib.hid (HD7.out.next hb8)
      have HB8 := Lib.hid (below_after HB7.out hb8)
      have hg8 : g8 < w8.heap.size := (ho8.lt g8 rfl).2
      clear hb8 ho8 HP7 HQ7 HL7 HB7 HD7 hcb
      go_wp2_with fail
      refine (samePairs_any _ _ c3 c4 P P _ HQ8.out HP8.out (by simp only [maxLen]; omega) (by simp only [maxLen]; omega)).mono ?_
      rw [show decide (P = P) = true from by simp]
      rintro e w9' ⟨rfl, n9, hw9⟩
      have hb9 : Below w8.heap.size w8 w9' := by rw [hw9]; exact below_drewN (Below.refl _ _) n9
      clear hw9
      have hca9 := (hb9.cell (p := ⟨g8, 0, none⟩) hg8).trans hca
      have hs9 := hb9.size
      have HQ9 := Lib.hid (HQ8.out.next hb9)
      have HL9 := Lib.hid (HL8.out.next hb9)
      have HD9 := Lib.hid (HD8.out.next hb9)
      have HB9 := Lib.hid (below_after HB8.out hb9)
      clear hb9 HP8 HQ8 HL8 HB8 HD8 hca
      go_wp2_with fail
      refine (implPairsOK_any _ c3 P _ HQ9.out (by omega) H1.out.sz).mono ?_
      rw [okP_of (by omega) H1.out.rise H1.out.fine]
      rintro e w9 ⟨rfl, hb9⟩
      have hca := (hb9.cell (p := ⟨g8, 0, none⟩) (show g8 < w9'.heap.size by omega)).trans hca9
      have HP := Lib.hid (HQ9.out.next hb9)
      have HL := Lib.hid (HL9.out.next hb9)
      have HD := Lib.hid (HD9.out.next hb9)
      have HB := Lib.hid (below_after HB9.out hb9)
      have hkk : (k.toList != k.toList) = false := by simp
      clear hb9 HQ9 HL9 HB9 HD9 hca9 hs9 hg8
      go_wp2_with fail
      go_loopw [19] (fun i wr => ∃ j : Nat, j ≤ l.length ∧ i = .int .i64 j ∧ Below w9.heap.size w9 wr) (fun i _ => l.length - (intOf i).toNat)
      case atStart => exact ⟨0, Nat.zero_le _, rfl, Below.refl _ _⟩
      case round =>
        obtain ⟨j, hj, rfl, hbr⟩ := hrel
        clear hca
        by_cases hlt : j < l.length
        · obtain ⟨ad, e1, hbl, hca, hcb⟩ := (HL.out.next hbr).pr hlt
          injection e1 with e1
          subst e1
          simp only [addr_lit, Nat.zero_add] at hca hcb
          have HMEM : Hid (l[j] ∈ l) := List.getElem_mem hlt
          obtain ⟨p, hp⟩ : ∃ p, p = l[j] := ⟨_, rfl⟩
          rw [← hp] at hca hcb HMEM
          clear hp
          cases he : (p.1.toList == k.toList) with
          | true =>
            go_wp2_with fail
            go_roundw
            case rel => exact ⟨j + 1, hlt, by go_num, hbr⟩
            case measure => simp [intOf]; omega
          | false =>
            have HNE : Hid (p.1 ≠ k) := by
              show _ ≠ _
              rintro rfl
              simp at he
            obtain ⟨ha1, hh1, hv1, ha2, hh2, hv2⟩ := H7.out p HMEM.out HNE.out
            have HA1 := Lib.hid ha1
            have HA2 := Lib.hid ha2
            have HH1 := Lib.hid (And.intro hh1 hv1)
            have HH2 := Lib.hid (And.intro hh2 hv2)
            have hpp : (p.2.toList != p.2.toList) = false := by simp
            clear ha1 hh1 hv1 ha2 hh2 hv2
            go_wp2_with fail
            refine (pairGet_any _ c3 P p.1 _ HA1.out (HP.out.next hbr)).mono ?_
            rw [HH1.out.1, HH1.out.2]
            rintro e wa ⟨rfl, hba⟩
            have hbr2 := below_after hbr hba
            have hca2 := (hba.cell (p := ⟨q, j * 2, none⟩) hbl).trans hca
            have hcb2 := (hba.cell (p := ⟨q, j * 2 + 1, none⟩) hbl).trans hcb
            have hbl2 : q < wa.heap.size := Nat.lt_of_lt_of_le hbl hba.size
            clear hba hca hcb hbr
            go_wp2_with fail
            refine (pairGet_any _ c6 D p.1 _ HA2.out (HD.out.next hbr2)).mono ?_
            rw [HH2.out.1, HH2.out.2]
            rintro e wb ⟨rfl, hbb⟩
            have hbr3 := below_after hbr2 hbb
            have hca3 := (hbb.cell (p := ⟨q, j * 2, none⟩) hbl2).trans hca2
            have hcb3 := (hbb.cell (p := ⟨q, j * 2 + 1, none⟩) hbl2).trans hcb2
            clear hbb hca2 hcb2 hbr2
            go_wp2_with fail
            go_roundw
            case rel => exact ⟨j + 1, hlt, by go_num, hbr3⟩
            case measure => simp [intOf]; omega
        · go_wp2_with fail
          go_ret
          exact ⟨rfl, below_after HB.out hbr⟩

end Go.Proofs.Ytlfnpnkpjdmonaa
