/- For every list of texts within the law's own bound of sizes, the program's RestoreArchive answers as the reference's: the same pairs, the same code; it writes into no argument, and its answers are new memory. There are no conditions of ours. -/
import Derived.Test.YtlfnpnkpjdmonaaFacts
import Derived.Test.YtlfnpnkpjdmonaaOpen
import Derived.SliceStrings
import Derived.Test.YtlfnpnkpjdmonaaSReplay
import Derived.ProofKit
import Derived.OpenShut
import Derived.ShutString
import Derived.ChangeOld
import Derived.Carry
import Derived.SizedLaws
set_option linter.unusedVariables false
set_option linter.unusedSimpArgs false
namespace Go.Proofs.Ytlfnpnkpjdmonaa.lawRestore
open Go.ChangeShapes Go.WideShapes Go.ChangeAt Go.RowKit Go.Joins
open Go.ChangeMaps (open_string shut_string)

theorem open_strs {H : Type} {enc : TypeId × Value → H} {W : World} {n : Nat} {v : Value} {y : DataW H × List MemPlace} (h : DataW.trod enc Try.prog W 0 (fun _ => true) true n 29 [v] = some y) :
    ∃ (A : Option Addr) (c : Nat) (xs : List ByteArray), v = .slice A xs.length c ∧ Rd W W.heap.size A (xs.map Value.string) ∧ xs.length ≤ maxLen ∧ ∀ s ∈ xs, s.size ≤ maxLen := by
  rcases open_strings Try.underlying29 Try.underlying9 cellsStr h with ⟨hcs, _⟩ | ⟨a, len, cap, ss, hcs, _, hl, hm, hz, _, hcell, hss⟩
  · simp only [List.cons.injEq, and_true] at hcs
    exact ⟨none, 0, [], hcs, Rd.nil _ _ _, Nat.zero_le _, by simp⟩
  · simp only [List.cons.injEq, and_true] at hcs
    simp only [if_true] at hz
    refine ⟨some a, cap, ss.take len, ?_, fun hne => ?_, ?_, fun s hs => hss s (List.mem_of_mem_take hs)⟩
    · rw [List.length_take, show min len ss.length = len from by omega]
      exact hcs
    · have hlen : 0 < len := by
        rcases Nat.eq_zero_or_pos len with h0 | h0
        · subst h0; simp at hne
        · exact h0
      have h0 := hcell 0 (by omega)
      have hb : a.block < W.heap.size := by
        have := block_lt_of_cell h0
        rwa [add_block] at this
      refine ⟨a, rfl, hb, fun j u hu => ?_⟩
      rw [List.getElem?_map, Option.map_eq_some_iff] at hu
      obtain ⟨z, hz1, rfl⟩ := hu
      have hj : j < ss.length := by
        have h1 := (List.getElem?_eq_some_iff.1 hz1).1
        rw [List.length_take] at h1
        omega
      rw [List.getElem?_take] at hz1
      split at hz1
      · rw [hcell j hj, List.getD_eq_getElem?_getD, hz1, Option.getD_some]
      · cases hz1
    · rw [List.length_take]; omega


theorem eqStrs {b1 b2 : Nat} {u v : Value} {xs : List ByteArray} {w : World} (hu : w.ownsRow b1 9 1 u xs.length (xs.map Value.string)) (hv : w.ownsRow b2 9 1 v xs.length (xs.map Value.string)) (hl : xs.length ≤ maxLen) :
    Calls Try.prog 33 #[u, v] w fun e w' => e = .returned (.bool true) ∧ Below w.heap.size w w' := by
  obtain ⟨A, c, rfl, _⟩ := own_form hu
  obtain ⟨B, d, rfl, _⟩ := own_form hv
  have h := eqStringS_any A B c d xs xs w (Rd.own hu) (Rd.own hv) hl hl
  simpa using h

/-- the texts that the law goes on with -/
def TG (xs : List ByteArray) : Prop := xs.length ≤ 1048576 ∧ ∀ s ∈ xs, s.size ≤ 1048576
theorem specR {xs : List ByteArray} {l : List Pr} {er : Int} {b : Nat} {v : Value} {w : World} (hq : restM xs = (l, er)) (hg : TG xs) (ho : w.ownsRow b 9 1 v xs.length (xs.map Value.string)) : Calls Try.prog 96 #[v] w (MadeT l er w) := by
  obtain ⟨A, c, rfl, _⟩ := own_form ho
  have h := specRest_any A c xs w (Rd.own ho) (Nat.le_trans hg.1 (by omega)) hg.2
  rw [hq] at h
  exact h
theorem implR {xs : List ByteArray} {l : List Pr} {er : Int} {b : Nat} {v : Value} {w : World} (hq : restM xs = (l, er)) (hg : TG xs) (ho : w.ownsRow b 9 1 v xs.length (xs.map Value.string)) : Calls Try.prog 98 #[v] w (MadeT l er w) := by
  obtain ⟨A, c, rfl, _⟩ := own_form ho
  have h := implRest_any A c xs w (Rd.own ho) (Nat.le_trans hg.1 (by omega)) hg.2
  rw [hq] at h
  exact h
theorem eqPr {l : List Pr} {b1 b2 : Nat} {u v : Value} {w : World} (hx : w.ownsRow b1 82 2 u l.length (flat encP l)) (hy : w.ownsRow b2 82 2 v l.length (flat encP l)) (hl : l.length ≤ maxLen) :
    Calls Try.prog 99 #[u, v] w fun e w' => e = .returned (.bool true) ∧ Below w.heap.size w w' := by
  obtain ⟨A, c, rfl, _⟩ := own_form hx
  obtain ⟨B, d, rfl, _⟩ := own_form hy
  exact eqPairS_eq A B c d l w (Rd.own hx) (Rd.own hy) hl
set_option maxRecDepth 100000 in
theorem szBig_any (A : Option Addr) (c : Nat) (xs : List ByteArray) (w : World) (h : 1048576 < xs.length) (hl : xs.length ≤ 9223372036854775807) :
    Calls Try.prog 95 #[.slice A xs.length c, .int .i64 1048576] w fun e w' => e = .returned (.int .i64 (-1)) ∧ w = w' := by
  have q1 : IntKind.i64.wrap ((1048576 : Int) - (xs.length : Int)) = (1048576 : Int) - (xs.length : Int) := IntWalk.i64_in _ (by omega)
  have q2 : (1048576 : Int) < (xs.length : Int) := by omega
  go_enter Try.func95, Try.ntmps95
  go_wp2
  go_ret
  exact ⟨rfl, rfl⟩
set_option maxRecDepth 100000 in
set_option maxHeartbeats 4000000 in
theorem law_any (A : Option Addr) (c : Nat) (xs : List ByteArray) (w : World) (hx : Rd w w.heap.size A (xs.map Value.string)) (hm : xs.length ≤ maxLen) (hs : ∀ s ∈ xs, s.size ≤ maxLen) :
    Calls Try.prog 18 #[.slice A xs.length c] w fun e w' => e = .returned (.bool true) ∧ Below w.heap.size w w' := by
  unfold maxLen at hm
  by_cases hbig : 1048576 < xs.length
  · have HZ := Lib.hid (szBig_any A c xs w hbig hm)
    clear hx hs
    go_enter Try.func18, Try.ntmps18
    go_wp2_with fail
    refine HZ.out.mono ?_
    rintro e w1 ⟨rfl, rfl⟩
    go_wp2_with fail
    go_ret
    exact ⟨rfl, Below.refl _ _⟩
  have HA := Lib.hid hx
  have HC := Lib.hid (szStringS_any A c xs 1048576 w hx (by omega) (by omega) (by omega) hs)
  have hl : (restM xs).1.length ≤ 60 := restM_len xs
  generalize hq : restM xs = q at *
  obtain ⟨l, er⟩ := q
  have HQ := Lib.hid hq
  have HL : Hid (l.length ≤ 60) := hl
  clear hl hq hx hs
  go_enter Try.func18, Try.ntmps18
  go_wp2_with fail
  refine HC.out.mono ?_
  rintro e w0 ⟨n, rfl, hn, hmm, rfl⟩
  have HM := Lib.hid hmm
  clear hmm HC
  by_cases h0 : n < 0
  · go_wp2_with fail
    go_ret
    exact ⟨rfl, Below.refl _ _⟩
  have HG : Hid (TG xs) := ⟨by have := (HM.out (by omega)).1; omega, fun s hs => by have := (HM.out (by omega)).2 s hs; omega⟩
  clear HM
  go_wp2_with fail
  refine (toStringS_any A c xs _ (HA.out.next (Below.refl _ _)) (by have := HG.out.1; omega)).mono ?_
  rintro e w1 ⟨v1, rfl, ho1, hb1⟩
  have hZ1 : Below w.heap.size w w1 := below_after (Below.refl _ _) hb1
  have hs1 : w.heap.size ≤ w1.heap.size := hb1.size
  have HZ1 := Lib.hid hZ1
  have HB1 := Lib.hid hb1
  clear hZ1 hb1
  have HOX0 := Lib.hid ho1
  have HIX0 : Hid (∀ k, (v1).ownBlock = some k → w.heap.size ≤ k ∧ k < w1.heap.size) := fun k hk => HOX0.out.lt k hk
  clear ho1
  go_wp2_with fail
  refine (specR HQ.out HG.out HOX0.out).mono ?_
  rintro e w2 ⟨v2, rfl, ho2, hb2⟩
  have hZ2 : Below w.heap.size w w2 := below_after HZ1.out hb2
  have hs2 : w1.heap.size ≤ w2.heap.size := hb2.size
  have HZ2 := Lib.hid hZ2
  have HB2 := Lib.hid hb2
  clear hZ2 hb2
  have HOS := Lib.hid ho2
  have HIS : Hid (∀ k, (v2).ownBlock = some k → w1.heap.size ≤ k ∧ k < w2.heap.size) := fun k hk => HOS.out.lt k hk
  clear ho2
  go_wp2_with fail
  refine (toStringS_any A c xs _ (HA.out.next HZ2.out) (by have := HG.out.1; omega)).mono ?_
  rintro e w3 ⟨v3, rfl, ho3, hb3⟩
  have hZ3 : Below w.heap.size w w3 := below_after HZ2.out hb3
  have hs3 : w2.heap.size ≤ w3.heap.size := hb3.size
  have HZ3 := Lib.hid hZ3
  have HB3 := Lib.hid hb3
  clear hZ3 hb3
  have HOX := Lib.hid ho3
  have HIX : Hid (∀ k, (v3).ownBlock = some k → w2.heap.size ≤ k ∧ k < w3.heap.size) := fun k hk => HOX.out.lt k hk
  clear ho3
  go_wp2_with fail
  refine (implR HQ.out HG.out HOX.out).mono ?_
  rintro e w4 ⟨v4, rfl, ho4, hb4⟩
  have hZ4 : Below w.heap.size w w4 := below_after HZ3.out hb4
  have hs4 : w3.heap.size ≤ w4.heap.size := hb4.size
  have HZ4 := Lib.hid hZ4
  have HB4 := Lib.hid hb4
  clear hZ4 hb4
  have HOG := Lib.hid ho4
  have HIG : Hid (∀ k, (v4).ownBlock = some k → w3.heap.size ≤ k ∧ k < w4.heap.size) := fun k hk => HOG.out.lt k hk
  clear ho4
  go_wp2_with fail
  refine (eqPr HOG.out (own_below (own_below HOS.out HB3.out) HB4.out) (by have := HL.out; simp only [maxLen]; omega)).mono ?_
  rintro e w5 ⟨rfl, hb5⟩
  have hZ5 : Below w.heap.size w w5 := below_after HZ4.out hb5
  have hs5 : w4.heap.size ≤ w5.heap.size := hb5.size
  have HZ5 := Lib.hid hZ5
  have HB5 := Lib.hid hb5
  clear hZ5 hb5
  go_wp2_with fail
  refine (toStringS_any A c xs _ (HA.out.next HZ5.out) (by have := HG.out.1; omega)).mono ?_
  rintro e w6 ⟨v6, rfl, ho6, hb6⟩
  have hZ6 : Below w.heap.size w w6 := below_after HZ5.out hb6
  have hs6 : w5.heap.size ≤ w6.heap.size := hb6.size
  have HZ6 := Lib.hid hZ6
  have HB6 := Lib.hid hb6
  clear hZ6 hb6
  have HOZ := Lib.hid ho6
  have HIZ : Hid (∀ k, (v6).ownBlock = some k → w5.heap.size ≤ k ∧ k < w6.heap.size) := fun k hk => HOZ.out.lt k hk
  clear ho6
  go_wp2_with fail
  refine (eqStrs (own_below (own_below (own_below HOX.out HB4.out) HB5.out) HB6.out) HOZ.out (by have := HG.out.1; simp only [maxLen]; omega)).mono ?_
  rintro e w7 ⟨rfl, hb7⟩
  have hZ7 : Below w.heap.size w w7 := below_after HZ6.out hb7
  have hs7 : w6.heap.size ≤ w7.heap.size := hb7.size
  have HZ7 := Lib.hid hZ7
  have HB7 := Lib.hid hb7
  clear hZ7 hb7
  go_wp2_with fail
  refine (markStringS_any _ _ _ _ 1 _ (own_below (own_below (own_below (own_below HOX.out HB4.out) HB5.out) HB6.out) HB7.out) (by have := HG.out.1; omega) (by omega) (by omega)).mono ?_
  rintro e w8 ⟨rfl, ho8, hb8⟩
  have hZ8 : Below w.heap.size w w8 := below_grown_own HZ7.out hb8 HIX.out (by omega)
  have hs8 : w7.heap.size ≤ w8.heap.size := hb8.size
  have HZ8 := Lib.hid hZ8
  have HB8 := Lib.hid hb8
  clear hZ8 hb8
  clear ho8
  have hml8 := HG.out.1
  go_wp2_with fail
  refine (eqPr ((own_below (own_below (own_below HOG.out HB5.out) HB6.out) HB7.out).kept HB8.out (ne_blocks HIG.out HIX.out (by omega))) ((own_below (own_below (own_below (own_below (own_below HOS.out HB3.out) HB4.out) HB5.out) HB6.out) HB7.out).kept HB8.out (ne_blocks HIS.out HIX.out (by omega))) (by have := HL.out; simp only [maxLen]; omega)).mono ?_
  rintro e w9 ⟨rfl, hb9⟩
  have hZ9 : Below w.heap.size w w9 := below_after HZ8.out hb9
  have hs9 : w8.heap.size ≤ w9.heap.size := hb9.size
  have HZ9 := Lib.hid hZ9
  have HB9 := Lib.hid hb9
  clear hZ9 hb9
  go_wp2_with fail
  refine (markPairS_any _ _ _ _ 1 _ (own_below ((own_below (own_below (own_below HOG.out HB5.out) HB6.out) HB7.out).kept HB8.out (ne_blocks HIG.out HIX.out (by omega))) HB9.out) (by have := HL.out; omega) (by omega) (by omega)).mono ?_
  rintro e w10 ⟨rfl, ⟨cs10, ho10, hm10⟩, hb10⟩
  have hZ10 : Below w.heap.size w w10 := below_grown_own HZ9.out hb10 HIG.out (by omega)
  have hs10 : w9.heap.size ≤ w10.heap.size := hb10.size
  have HZ10 := Lib.hid hZ10
  have HB10 := Lib.hid hb10
  clear hZ10 hb10
  have HK := Lib.hid hm10
  clear hm10
  have hln := HL.out
  have HOM := Lib.hid ho10
  clear ho10
  go_wp2_with fail
  refine (heldPairS_any _ _ _ _ 1 _ HOM.out HK.out (by have := HL.out; omega) (by omega) (by omega)).mono ?_
  rintro e w11 ⟨rfl, hb11⟩
  have hZ11 : Below w.heap.size w w11 := below_after HZ10.out hb11
  have hs11 : w10.heap.size ≤ w11.heap.size := hb11.size
  have HZ11 := Lib.hid hZ11
  have HB11 := Lib.hid hb11
  clear hZ11 hb11
  go_wp2_with fail
  refine (toStringS_any A c xs _ (HA.out.next HZ11.out) (by have := HG.out.1; omega)).mono ?_
  rintro e w12 ⟨v12, rfl, ho12, hb12⟩
  have hZ12 : Below w.heap.size w w12 := below_after HZ11.out hb12
  have hs12 : w11.heap.size ≤ w12.heap.size := hb12.size
  have HZ12 := Lib.hid hZ12
  have HB12 := Lib.hid hb12
  clear hZ12 hb12
  have HOU := Lib.hid ho12
  have HIU : Hid (∀ k, (v12).ownBlock = some k → w11.heap.size ≤ k ∧ k < w12.heap.size) := fun k hk => HOU.out.lt k hk
  clear ho12
  go_wp2_with fail
  refine (implR HQ.out HG.out HOU.out).mono ?_
  rintro e w13 ⟨v13, rfl, ho13, hb13⟩
  have hZ13 : Below w.heap.size w w13 := below_after HZ12.out hb13
  have hs13 : w12.heap.size ≤ w13.heap.size := hb13.size
  have HZ13 := Lib.hid hZ13
  have HB13 := Lib.hid hb13
  clear hZ13 hb13
  have HOH := Lib.hid ho13
  have HIH : Hid (∀ k, (v13).ownBlock = some k → w12.heap.size ≤ k ∧ k < w13.heap.size) := fun k hk => HOH.out.lt k hk
  clear ho13
  go_wp2_with fail
  refine (eqPr HOH.out (own_below (own_below (own_below ((own_below ((own_below (own_below (own_below (own_below (own_below HOS.out HB3.out) HB4.out) HB5.out) HB6.out) HB7.out).kept HB8.out (ne_blocks HIS.out HIX.out (by omega))) HB9.out).kept HB10.out (ne_blocks HIS.out HIG.out (by omega))) HB11.out) HB12.out) HB13.out) (by have := HL.out; simp only [maxLen]; omega)).mono ?_
  rintro e w14 ⟨rfl, hb14⟩
  have hZ14 : Below w.heap.size w w14 := below_after HZ13.out hb14
  have hs14 : w13.heap.size ≤ w14.heap.size := hb14.size
  have HZ14 := Lib.hid hZ14
  have HB14 := Lib.hid hb14
  clear hZ14 hb14
  go_wp2_with fail
  refine (heldPairS_any _ _ _ _ 1 _ (own_below (own_below (own_below (own_below HOM.out HB11.out) HB12.out) HB13.out) HB14.out) HK.out (by have := HL.out; omega) (by omega) (by omega)).mono ?_
  rintro e w15 ⟨rfl, hb15⟩
  have hZ15 : Below w.heap.size w w15 := below_after HZ14.out hb15
  have hs15 : w14.heap.size ≤ w15.heap.size := hb15.size
  have HZ15 := Lib.hid hZ15
  have HB15 := Lib.hid hb15
  clear hZ15 hb15
  go_wp2_with fail
  go_ret
  exact ⟨rfl, HZ15.out⟩

set_option maxRecDepth 100000 in
theorem lifted (os : Os) (started : os.Started) (H : Type) (enc : TypeId × Value → H) :
    ReturnsInHanded {} Try.checked os 18 .any (Rows.fnExactRestoreArchiveSpec.pre6 enc Try.prog Try.f18 Rows.fnExactRestoreArchiveRow.domain false) (Rows.fnExactRestoreArchiveSpec.post enc Try.prog Try.f18 false true false false) := by
  refine returnsInHanded_of_change_sized (C := Try.checked) Facts.own started (by kernel_rfl) Try.func18
    (ChangeSpec.witness6 (enc := enc) (C := Try.checked) false ⟨#[], #[.slice none 0 0], []⟩ 8 (by kernel_rfl) (by kernel_rfl) (by kernel_rfl) (by kernel_rfl)) ?_
  intro W base args ds gs before hval0 hW hcnd hsz0 _
  have hsz : (DataW.weightsEach Try.prog (Try.f18.params.toList ++ Rows.fnExactRestoreArchiveSpec.plain.varTypes Try.prog) (ds ++ gs)).all (· ≤ reachBytes) = true := hsz0
  have hval : ∀ (j : Nat) t v, Try.f18.params[j]? = some t → args[j]? = some v → Value.okWide Try.prog W .any base t v := hval0
  have hW' := hW
  obtain ⟨p, q, hA0, hV, rfl, hfz, hnd⟩ := hW
  have hA : DataW.TrodAll enc Try.prog W 0 (fun _ => true) true Try.f18.params.toList args.toList ds p := hA0
  rw [Try.params18] at hA hval hsz
  obtain ⟨rfl, rfl⟩ := trodVars_none hV
  have hltp : ∀ x ∈ p, x.block < W.heap.size := fun x hx => by simpa using hW'.lt x (by simp [hx])
  clear hA0 hval0 hsz0
  obtain ⟨v0, d0, rfl, rfl, h0⟩ := trodAll_one hA
  obtain ⟨a0, len0, cap0, hv0⟩ := okWide_slice Try.underlying29 (hval 0 29 v0 rfl rfl)
  obtain ⟨fuel, hf⟩ := id h0
  rw [hv0] at hf
  obtain ⟨A, c, xs, hv, hx, hm, hg⟩ := open_strs hf
  obtain rfl : v0 = .slice A xs.length c := hv0.trans hv
  refine (law_any A c xs W hx hm hg).mono fun e W' ⟨he, bel⟩ => ?_
  subst he
  exact ⟨_, rfl, _, _, _, [], _, [], hW', trodAll_mk1 (shut_bool Try.underlying4 _), trodAll_mk1 (Below.trod Facts.laidOut (by kernel_rfl) (of_decide_eq_true (by kernel_rfl)) h0 bel hltp), rfl, bel.frame _, fun h => by cases h⟩
theorem named_ : Try.pinned.checked.prog.funcNamed Rows.fnExactRestoreArchiveRow.func = some 18 := by kernel_rfl
set_option maxHeartbeats 8000000 in
theorem closed_ : joinedFacts Try.pinned.checked.prog 18 Try.f18 Rows.fnExactRestoreArchiveSpec Rows.fnExactRestoreArchiveRow = true := by
  unfold joinedFacts
  with_reducible repeat' (refine Facts.and_t ?_ ?_)
  all_goals first
    | with_reducible exact Facts.laidOut
    | with_reducible exact Facts.mapsRowed
    | with_reducible exact Facts.stopsHeard
    | with_reducible exact Facts.mayEnter
    | (rw [Facts.plainKeys]; as_aux_lemma => kernel_rfl)
    | (rw [Facts.lifts]; as_aux_lemma => kernel_rfl)
    | (rw [Facts.make_]; as_aux_lemma => kernel_rfl)
    | as_aux_lemma => kernel_rfl
theorem inst_ : Try.f18.isInstance Try.pinned.checked.prog Rows.fnExactRestoreArchiveRow.origin Rows.fnExactRestoreArchiveRow.targs := of_decide_eq_true (by kernel_rfl)
theorem wrap_ : Try.f18.isWrapper Try.pinned.checked.prog Rows.fnExactRestoreArchiveRow.wrapper Rows.fnExactRestoreArchiveRow.mainSum := by unfold Func.isWrapper; first | (rw [if_pos (by decide +kernel)]; kernel_rfl) | (rw [if_neg (by decide +kernel)]; exact ⟨rfl, rfl⟩)
theorem over : Rows.fnExactRestoreArchiveRow.holds Try.pinned (OpenSpec.ofChange Rows.fnExactRestoreArchiveSpec) :=
  OpenClaim.holds_of_wide 18 Try.f18 rfl rfl rfl rfl rfl rfl rfl ⟨rfl, rfl, rfl, rfl, rfl⟩ rfl rfl rfl rfl rfl named_ Try.func18 closed_ inst_ wrap_
    (fun os started H enc _ => lifted os started H enc)
theorem proved : Rows.FnExactRestoreArchiveSaid := over
#print axioms proved
end Go.Proofs.Ytlfnpnkpjdmonaa.lawRestore
namespace Go.Proofs.Ytlfnpnkpjdmonaa
/-- The row, under a short name, for the claim. -/
theorem fnExactRestoreArchive_holds : Rows.FnExactRestoreArchiveSaid := lawRestore.proved
end Go.Proofs.Ytlfnpnkpjdmonaa
