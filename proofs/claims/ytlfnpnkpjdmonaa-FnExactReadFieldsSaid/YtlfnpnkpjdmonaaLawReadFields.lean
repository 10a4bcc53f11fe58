/- At any bytes, the program's ReadFields answers as the reference's: the same texts, the same code; it writes into no argument, and its answers are new memory. There are no conditions. -/
import Derived.Test.YtlfnpnkpjdmonaaFacts
import Derived.Test.YtlfnpnkpjdmonaaOpen
import Derived.ProofKit
import Derived.OpenShut
import Derived.ShutString
import Derived.ChangeOld
import Derived.Carry
import Derived.SizedLaws
set_option linter.unusedVariables false
set_option linter.unusedSimpArgs false
namespace Go.Proofs.Ytlfnpnkpjdmonaa.lawReadFields
open Go.ChangeShapes Go.WideShapes Go.ChangeAt Go.RowKit Go.Joins
open Go.ChangeMaps (open_string shut_string)

theorem eqStrs {b1 b2 : Nat} {u v : Value} {xs : List ByteArray} {w : World} (hu : w.ownsRow b1 9 1 u xs.length (xs.map Value.string)) (hv : w.ownsRow b2 9 1 v xs.length (xs.map Value.string)) (hl : xs.length ≤ maxLen) :
    Calls Try.prog 33 #[u, v] w fun e w' => e = .returned (.bool true) ∧ Below w.heap.size w w' := by
  obtain ⟨A, c, rfl, _⟩ := own_form hu
  obtain ⟨B, d, rfl, _⟩ := own_form hv
  have h := eqStringS_any A B c d xs xs w (Rd.own hu) (Rd.own hv) hl hl
  simpa using h
theorem eqBytes {b1 b2 : Nat} {u v : Value} {xs : List UInt8} {w : World} (hu : w.ownsRow b1 5 1 u xs.length (xs.map bv)) (hv : w.ownsRow b2 5 1 v xs.length (xs.map bv)) (hl : xs.length ≤ maxLen) :
    Calls Try.prog 34 #[u, v] w fun e w' => e = .returned (.bool true) ∧ Below w.heap.size w w' := by
  obtain ⟨A, c, rfl, _⟩ := own_form hu
  obtain ⟨B, d, rfl, _⟩ := own_form hv
  exact eqByteS_eq A B c d xs w (Rd.own hu) (Rd.own hv) hl
theorem heldStrs {b1 : Nat} {u : Value} {n : Nat} {k : Int} {w : World} (hu : w.ownsRow b1 9 1 u n (marks k n)) (hl : n ≤ 17592186044416) (h0 : 0 ≤ k) (h1 : k ≤ 17592186044416) :
    Calls Try.prog 37 #[u, .int .i64 k] w fun e w' => e = .returned (.int .i64 (k + n)) ∧ Below w.heap.size w w' := by
  obtain ⟨A, c, rfl, _⟩ := own_form hu
  exact heldStringS_any A c n k w (Rd.own hu) hl h0 h1

theorem parseN_len {k : Nat} {r : List UInt8} {p : List (List UInt8) × List UInt8} (h : parseN k r = some p) : p.1.length = k := by
  induction k generalizing r p with
  | zero => rw [parseN] at h; injection h with h; subst h; rfl
  | succ k ih =>
    rw [parseN] at h
    split at h
    · cases h
    · rw [Option.map_eq_some_iff] at h
      obtain ⟨q, hq, rfl⟩ := h
      simp [ih hq]
theorem parse_len {l : List UInt8} {p : List (List UInt8) × List UInt8} (h : parseF l = some p) : p.1.length ≤ 255 := by
  unfold parseF at h
  split at h
  · cases h
  · rw [parseN_len h]; omega
def RF (w : World) (xs : List UInt8) (e : Ending) (w' : World) : Prop :=
  ∃ v, e = .returned (.tuple #[v, .int .i64 (rfM xs).2]) ∧ w'.ownsRow w.heap.size 9 1 v ((rfM xs).1.map bs).length (((rfM xs).1.map bs).map Value.string) ∧ Below w.heap.size w w'
theorem rf_tune {w : World} {xs : List UInt8} {e : Ending} {w' : World} (h : RFPost w xs e w') : RF w xs e w' := by
  obtain ⟨v, rfl, ho, _, hb⟩ := h
  unfold RF
  refine ⟨v, rfl, ?_, hb⟩
  rw [List.length_map, List.map_map]
  exact ho
theorem rf_len (xs : List UInt8) : (rfM xs).1.length ≤ 255 := by
  unfold rfM
  split
  · simp
  · split
    · rename_i ys h
      unfold full at h
      split at h
      · rename_i zs hp
        injection h with h
        subst h
        exact parse_len hp
      · cases h
    · simp
theorem specRF (base : Nat) (v : Value) (xs : List UInt8) (w : World) (hv : w.ownsRow base 5 1 v xs.length (xs.map bv)) (hl : xs.length ≤ 4194304) : Calls Try.prog 30 #[v] w (RF w xs) := (specReadFields_any base v xs w hv hl).mono fun _ _ h => rf_tune h
theorem implRF (base : Nat) (v : Value) (xs : List UInt8) (w : World) (hv : w.ownsRow base 5 1 v xs.length (xs.map bv)) (hl : xs.length ≤ 4194304) : Calls Try.prog 32 #[v] w (RF w xs) := (implReadFields_any base v xs w hv hl).mono fun _ _ h => rf_tune h

set_option maxRecDepth 100000 in
set_option maxHeartbeats 1000000 in
theorem law_any (A : Option Addr) (c : Nat) (xs : List UInt8) (w : World) (hx : Rd w w.heap.size A (xs.map bv)) (hm : xs.length ≤ maxLen) :
    Calls Try.prog 6 #[.slice A xs.length c] w fun e w' => e = .returned (.bool true) ∧ Below w.heap.size w w' := by
  unfold maxLen at hm
  by_cases hbig : 1048576 < xs.length
  · go_enter Try.func6, Try.ntmps6
    go_wp2
    go_ret
    exact ⟨rfl, Below.refl _ _⟩
  have HA := Lib.hid hx
  clear hx
  have hl : (rfM xs).1.length ≤ 255 := rf_len xs
  have HL : Hid (((rfM xs).1.map bs).length ≤ 255) := by rw [List.length_map]; exact hl
  clear hl
  go_enter Try.func6, Try.ntmps6
  go_wp2_with fail
  refine (toByteS_any _ _ xs _ (HA.out.next (Below.refl _ _)) (by omega)).mono ?_
  rintro e w1 ⟨v1, rfl, ho1, hb1⟩
  have hZ1 : Below w.heap.size w w1 := below_after (Below.refl _ _) hb1
  have hs1 : w.heap.size ≤ w1.heap.size := hb1.size
  have HZ1 := Lib.hid hZ1
  have HB1 := Lib.hid hb1
  clear hZ1 hb1
  have HOX := Lib.hid ho1
  have HIX : Hid (∀ k, (v1).ownBlock = some k → w.heap.size ≤ k ∧ k < w1.heap.size) := fun k hk => HOX.out.lt k hk
  clear ho1
  go_wp2_with fail
  refine (specRF _ _ xs _ HOX.out (by omega)).mono ?_
  rintro e w2 ⟨v2, rfl, ho2, hb2⟩
  have hZ2 : Below w.heap.size w w2 := below_after HZ1.out hb2
  have hs2 : w1.heap.size ≤ w2.heap.size := hb2.size
  have HZ2 := Lib.hid hZ2
  have HB2 := Lib.hid hb2
  clear hZ2 hb2
  have HOS := Lib.hid ho2
  have HIS : Hid (∀ k, (v2).ownBlock = some k → w1.heap.size ≤ k ∧ k < w2.heap.size) := fun k hk => HOS.out.lt k hk
  clear ho2
  go_wp2_with fail
  refine (toByteS_any _ _ xs _ (HA.out.next HZ2.out) (by omega)).mono ?_
  rintro e w3 ⟨v3, rfl, ho3, hb3⟩
  have hZ3 : Below w.heap.size w w3 := below_after HZ2.out hb3
  have hs3 : w2.heap.size ≤ w3.heap.size := hb3.size
  have HZ3 := Lib.hid hZ3
  have HB3 := Lib.hid hb3
  clear hZ3 hb3
  have HOY := Lib.hid ho3
  have HIY : Hid (∀ k, (v3).ownBlock = some k → w2.heap.size ≤ k ∧ k < w3.heap.size) := fun k hk => HOY.out.lt k hk
  clear ho3
  go_wp2_with fail
  refine (implRF _ _ xs _ HOY.out (by omega)).mono ?_
  rintro e w4 ⟨v4, rfl, ho4, hb4⟩
  have hZ4 : Below w.heap.size w w4 := below_after HZ3.out hb4
  have hs4 : w3.heap.size ≤ w4.heap.size := hb4.size
  have HZ4 := Lib.hid hZ4
  have HB4 := Lib.hid hb4
  clear hZ4 hb4
  have HOG := Lib.hid ho4
  have HIG : Hid (∀ k, (v4).ownBlock = some k → w3.heap.size ≤ k ∧ k < w4.heap.size) := fun k hk => HOG.out.lt k hk
  clear ho4
  go_wp2_with fail
  refine (eqStrs HOG.out (own_below (own_below HOS.out HB3.out) HB4.out) (by have := HL.out; simp only [maxLen]; omega)).mono ?_
  rintro e w5 ⟨rfl, hb5⟩
  have hZ5 : Below w.heap.size w w5 := below_after HZ4.out hb5
  have hs5 : w4.heap.size ≤ w5.heap.size := hb5.size
  have HZ5 := Lib.hid hZ5
  have HB5 := Lib.hid hb5
  clear hZ5 hb5
  go_wp2_with fail
  refine (toByteS_any _ _ xs _ (HA.out.next HZ5.out) (by omega)).mono ?_
  rintro e w6 ⟨v6, rfl, ho6, hb6⟩
  have hZ6 : Below w.heap.size w w6 := below_after HZ5.out hb6
  have hs6 : w5.heap.size ≤ w6.heap.size := hb6.size
  have HZ6 := Lib.hid hZ6
  have HB6 := Lib.hid hb6
  clear hZ6 hb6
  have HOZ := Lib.hid ho6
  have HIZ : Hid (∀ k, (v6).ownBlock = some k → w5.heap.size ≤ k ∧ k < w6.heap.size) := fun k hk => HOZ.out.lt k hk
  clear ho6
  go_wp2_with fail
  refine (eqBytes (own_below (own_below (own_below HOY.out HB4.out) HB5.out) HB6.out) HOZ.out (by simp only [maxLen]; omega)).mono ?_
  rintro e w7 ⟨rfl, hb7⟩
  have hZ7 : Below w.heap.size w w7 := below_after HZ6.out hb7
  have hs7 : w6.heap.size ≤ w7.heap.size := hb7.size
  have HZ7 := Lib.hid hZ7
  have HB7 := Lib.hid hb7
  clear hZ7 hb7
  go_wp2_with fail
  refine (markByteS_any _ _ _ _ 1 _ (own_below (own_below (own_below (own_below HOY.out HB4.out) HB5.out) HB6.out) HB7.out) (by omega) (by omega) (by omega)).mono ?_
  rintro e w8 ⟨rfl, hb8⟩
  have hZ8 : Below w.heap.size w w8 := below_grown_own HZ7.out hb8 HIY.out (by omega)
  have hs8 : w7.heap.size ≤ w8.heap.size := hb8.size
  have HZ8 := Lib.hid hZ8
  have HB8 := Lib.hid hb8
  clear hZ8 hb8
  go_wp2_with fail
  refine (eqStrs ((own_below (own_below (own_below HOG.out HB5.out) HB6.out) HB7.out).kept HB8.out (ne_blocks HIG.out HIY.out (by omega))) ((own_below (own_below (own_below (own_below (own_below HOS.out HB3.out) HB4.out) HB5.out) HB6.out) HB7.out).kept HB8.out (ne_blocks HIS.out HIY.out (by omega))) (by have := HL.out; simp only [maxLen]; omega)).mono ?_
  rintro e w9 ⟨rfl, hb9⟩
  have hZ9 : Below w.heap.size w w9 := below_after HZ8.out hb9
  have hs9 : w8.heap.size ≤ w9.heap.size := hb9.size
  have HZ9 := Lib.hid hZ9
  have HB9 := Lib.hid hb9
  clear hZ9 hb9
  go_wp2_with fail
  refine (markStringS_any _ _ _ _ 1 _ (own_below ((own_below (own_below (own_below HOG.out HB5.out) HB6.out) HB7.out).kept HB8.out (ne_blocks HIG.out HIY.out (by omega))) HB9.out) (by have := HL.out; omega) (by omega) (by omega)).mono ?_
  rintro e w10 ⟨rfl, ho10, hb10⟩
  have hZ10 : Below w.heap.size w w10 := below_grown_own HZ9.out hb10 HIG.out (by omega)
  have hs10 : w9.heap.size ≤ w10.heap.size := hb10.size
  have HZ10 := Lib.hid hZ10
  have HB10 := Lib.hid hb10
  clear hZ10 hb10
  have HOM := Lib.hid ho10
  clear ho10
  go_wp2_with fail
  refine (heldStrs HOM.out (by have := HL.out; omega) (by omega) (by omega)).mono ?_
  rintro e w11 ⟨rfl, hb11⟩
  have hZ11 : Below w.heap.size w w11 := below_after HZ10.out hb11
  have hs11 : w10.heap.size ≤ w11.heap.size := hb11.size
  have HZ11 := Lib.hid hZ11
  have HB11 := Lib.hid hb11
  clear hZ11 hb11
  go_wp2_with fail
  refine (toByteS_any _ _ xs _ (HA.out.next HZ11.out) (by omega)).mono ?_
  rintro e w12 ⟨v12, rfl, ho12, hb12⟩
  have hZ12 : Below w.heap.size w w12 := below_after HZ11.out hb12
  have hs12 : w11.heap.size ≤ w12.heap.size := hb12.size
  have HZ12 := Lib.hid hZ12
  have HB12 := Lib.hid hb12
  clear hZ12 hb12
  have HOU := Lib.hid ho12
  have HIU : Hid (∀ k, (v12).ownBlock = some k → w11.heap.size ≤ k ∧ k < w12.heap.size) := fun k hk => HOU.out.lt k hk
  clear ho12
  go_wp2_with fail
  refine (implRF _ _ xs _ HOU.out (by omega)).mono ?_
  rintro e w13 ⟨v13, rfl, ho13, hb13⟩
  have hZ13 : Below w.heap.size w w13 := below_after HZ12.out hb13
  have hs13 : w12.heap.size ≤ w13.heap.size := hb13.size
  have HZ13 := Lib.hid hZ13
  have HB13 := Lib.hid hb13
  clear hZ13 hb13
  have HOH := Lib.hid ho13
  have HIH : Hid (∀ k, (v13).ownBlock = some k → w12.heap.size ≤ k ∧ k < w13.heap.size) := fun k hk => HOH.out.lt k hk
  clear ho13
  go_wp2_with fail
  refine (eqStrs HOH.out (own_below (own_below (own_below ((own_below ((own_below (own_below (own_below (own_below (own_below HOS.out HB3.out) HB4.out) HB5.out) HB6.out) HB7.out).kept HB8.out (ne_blocks HIS.out HIY.out (by omega))) HB9.out).kept HB10.out (ne_blocks HIS.out HIG.out (by omega))) HB11.out) HB12.out) HB13.out) (by have := HL.out; simp only [maxLen]; omega)).mono ?_
  rintro e w14 ⟨rfl, hb14⟩
  have hZ14 : Below w.heap.size w w14 := below_after HZ13.out hb14
  have hs14 : w13.heap.size ≤ w14.heap.size := hb14.size
  have HZ14 := Lib.hid hZ14
  have HB14 := Lib.hid hb14
  clear hZ14 hb14
  go_wp2_with fail
  refine (heldStrs (own_below (own_below (own_below (own_below HOM.out HB11.out) HB12.out) HB13.out) HB14.out) (by have := HL.out; omega) (by omega) (by omega)).mono ?_
  rintro e w15 ⟨rfl, hb15⟩
  have hZ15 : Below w.heap.size w w15 := below_after HZ14.out hb15
  have hs15 : w14.heap.size ≤ w15.heap.size := hb15.size
  have HZ15 := Lib.hid hZ15
  have HB15 := Lib.hid hb15
  clear hZ15 hb15
  go_wp2_with fail
  go_ret
  exact ⟨rfl, HZ15.out⟩

set_option maxRecDepth 100000 in
theorem lifted (os : Os) (started : os.Started) (H : Type) (enc : TypeId × Value → H) :
    ReturnsInHanded {} Try.checked os 6 .any (Rows.fnExactReadFieldsSpec.pre6 enc Try.prog Try.f6 Rows.fnExactReadFieldsRow.domain false) (Rows.fnExactReadFieldsSpec.post enc Try.prog Try.f6 false true false false) := by
  refine returnsInHanded_of_change_sized (C := Try.checked) Facts.own started (by kernel_rfl) Try.func6
    (ChangeSpec.witness6 (enc := enc) (C := Try.checked) false ⟨#[], #[.slice none 0 0], []⟩ 8 (by kernel_rfl) (by kernel_rfl) (by kernel_rfl) (by kernel_rfl)) ?_
  intro W base args ds gs before hval0 hW hcnd hsz0 _
  have hsz : (DataW.weightsEach Try.prog (Try.f6.params.toList ++ Rows.fnExactReadFieldsSpec.plain.varTypes Try.prog) (ds ++ gs)).all (· ≤ reachBytes) = true := hsz0
  have hval : ∀ (j : Nat) t v, Try.f6.params[j]? = some t → args[j]? = some v → Value.okWide Try.prog W .any base t v := hval0
  have hW' := hW
  obtain ⟨p, q, hA0, hV, rfl, hfz, hnd⟩ := hW
  have hA : DataW.TrodAll enc Try.prog W 0 (fun _ => true) true Try.f6.params.toList args.toList ds p := hA0
  rw [Try.params6] at hA hval hsz
  obtain ⟨rfl, rfl⟩ := trodVars_none hV
  have hltp : ∀ x ∈ p, x.block < W.heap.size := fun x hx => by simpa using hW'.lt x (by simp [hx])
  clear hA0 hval0 hsz0
  obtain ⟨v0, d0, rfl, rfl, h0⟩ := trodAll_one hA
  obtain ⟨A, c, xs, rfl, hx, hm⟩ := open_bytes (hval 0 39 v0 rfl rfl) h0
  refine (law_any A c xs W hx hm).mono fun e W' ⟨he, bel⟩ => ?_
  subst he
  exact ⟨_, rfl, _, _, _, [], _, [], hW', trodAll_mk1 (shut_bool Try.underlying4 _), trodAll_mk1 (Below.trod Facts.laidOut (by kernel_rfl) (of_decide_eq_true (by kernel_rfl)) h0 bel hltp), rfl, bel.frame _, fun h => by cases h⟩
theorem named_ : Try.pinned.checked.prog.funcNamed Rows.fnExactReadFieldsRow.func = some 6 := by kernel_rfl
set_option maxHeartbeats 8000000 in
theorem closed_ : joinedFacts Try.pinned.checked.prog 6 Try.f6 Rows.fnExactReadFieldsSpec Rows.fnExactReadFieldsRow = true := by
  unfold joinedFacts
  with_reducible repeat' (refine Facts.and_t ?_ ?_)
  all_goals first
    | with_reducible exact Facts.laidOut
    | with_reducible exact Facts.mapsRowed
    | with_reducible exact Facts.stopsHeard
    | with_reducible exact Facts.mayEnter
    | (rw [Facts.plainKeys]; as_aux_lemma => kernel_rfl)
    | (rw [Facts.lifts]; as_aux_lemma => kernel_rfl)
    | (rw [Facts.make_]; as_aux_lemma => kernel_rfl)
    | as_aux_lemma => kernel_rfl
theorem inst_ : Try.f6.isInstance Try.pinned.checked.prog Rows.fnExactReadFieldsRow.origin Rows.fnExactReadFieldsRow.targs := of_decide_eq_true (by kernel_rfl)
theorem wrap_ : Try.f6.isWrapper Try.pinned.checked.prog Rows.fnExactReadFieldsRow.wrapper Rows.fnExactReadFieldsRow.mainSum := by unfold Func.isWrapper; first | (rw [if_pos (by decide +kernel)]; kernel_rfl) | (rw [if_neg (by decide +kernel)]; exact ⟨rfl, rfl⟩)
theorem over : Rows.fnExactReadFieldsRow.holds Try.pinned (OpenSpec.ofChange Rows.fnExactReadFieldsSpec) :=
  OpenClaim.holds_of_wide 6 Try.f6 rfl rfl rfl rfl rfl rfl rfl ⟨rfl, rfl, rfl, rfl, rfl⟩ rfl rfl rfl rfl rfl named_ Try.func6 closed_ inst_ wrap_
    (fun os started H enc _ => lifted os started H enc)
theorem proved : Rows.FnExactReadFieldsSaid := over
#print axioms proved
end Go.Proofs.Ytlfnpnkpjdmonaa.lawReadFields
namespace Go.Proofs.Ytlfnpnkpjdmonaa
/-- The row, under a short name, for the claim. -/
theorem fnExactReadFields_holds : Rows.FnExactReadFieldsSaid := lawReadFields.proved
end Go.Proofs.Ytlfnpnkpjdmonaa
