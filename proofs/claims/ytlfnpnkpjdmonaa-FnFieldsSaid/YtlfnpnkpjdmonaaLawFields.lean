/- At any bytes code and more: the fields of drawn texts are read back, and whatever bytes more are read as fields are just those of what was read; there are no conditions. -/
import Derived.Test.YtlfnpnkpjdmonaaFacts
import Derived.Test.YtlfnpnkpjdmonaaSrc3
import Derived.Test.YtlfnpnkpjdmonaaOpen
import Derived.ProofKit
import Derived.OpenShut
import Derived.ShutString
import Derived.ChangeOld
import Derived.Carry
import Derived.SizedLaws
set_option linter.unusedVariables false
set_option linter.unusedSimpArgs false
namespace Go.Proofs.Ytlfnpnkpjdmonaa.lawFields
open Go.ChangeShapes Go.WideShapes Go.ChangeAt Go.RowKit Go.Joins
open Go.ChangeMaps (open_string shut_string)

/-! ### the plain law: fields and their bytes -/
theorem nb_be_n : ∀ (n : Nat) (l : List UInt8), l.length = n → nb (be l) n = l
  | 0, l, h => by rw [List.eq_nil_of_length_eq_zero h]; rfl
  | n + 1, l, h => by
    rcases List.eq_nil_or_concat l with rfl | ⟨m, c, rfl⟩
    · simp at h
    · rw [List.concat_eq_append] at h ⊢
      have hc := c.toNat_lt
      rw [be_snoc, nb, show (be m * 256 + c.toNat) / 256 = be m from by omega, nb_be_n n m (by simpa using h), show (be m * 256 + c.toNat) % 256 = c.toNat from by omega]
      simp
theorem nb_be (l : List UInt8) : nb (be l) l.length = l := nb_be_n _ l rfl
theorem parseN_write (xs : List (List UInt8)) (q : List UInt8) (h : ∀ x ∈ xs, x.length ≤ 300) : parseN xs.length ((xs.flatMap fun x => nb x.length 2 ++ x) ++ q) = some (xs, q) := by
  induction xs with
  | nil => rfl
  | cons x xs ih =>
    have hx := h x (by simp)
    have hl : (nb x.length 2).length = 2 := nb_len _ _
    rw [List.length_cons, List.flatMap_cons, List.append_assoc, List.append_assoc, parseN]
    have ht : (nb x.length 2 ++ (x ++ ((xs.flatMap fun x => nb x.length 2 ++ x) ++ q))).take 2 = nb x.length 2 := by rw [List.take_append_of_le_length (by omega), List.take_of_length_le (by omega)]
    have hd : (nb x.length 2 ++ (x ++ ((xs.flatMap fun x => nb x.length 2 ++ x) ++ q))).drop 2 = x ++ ((xs.flatMap fun x => nb x.length 2 ++ x) ++ q) := by rw [List.drop_append_of_le_length (by omega), List.drop_of_length_le (by omega), List.nil_append]
    have hb : be (nb x.length 2) = x.length := by rw [be_nb]; omega
    rw [ht, hd, hb, if_neg (by simp; omega), List.drop_left, List.take_left, ih fun y hy => h y (by simp [hy])]
    rfl
theorem be_one (c : UInt8) : be [c] = c.toNat := by simp [be]
theorem full_write (xs : List (List UInt8)) (hl : xs.length ≤ 200) (h : ∀ x ∈ xs, x.length ≤ 300) : full (fieldsB xs) = some xs := by
  have hb : be ((fieldsB xs).take 1) = xs.length := by
    simp only [fieldsB, List.take_succ_cons, List.take_zero, be_one]
    simp
    omega
  have hp : parseF (fieldsB xs) = some (xs, []) := by
    rw [parseF, hb, if_neg (by simp [fieldsB]; omega)]
    have := parseN_write xs [] h
    simpa [fieldsB] using this
  unfold full
  rw [hp]
theorem parseN_read : ∀ (k : Nat) (r : List UInt8) (xs : List (List UInt8)) (q : List UInt8), parseN k r = some (xs, q) → r = (xs.flatMap fun x => nb x.length 2 ++ x) ++ q ∧ xs.length = k ∧ ∀ x ∈ xs, x.length ≤ 300
  | 0, r, xs, q, h => by
    rw [parseN] at h
    injection h with h
    injection h with h1 h2
    subst h1 h2
    simp
  | k + 1, r, xs, q, h => by
    rw [parseN] at h
    split at h
    · cases h
    · rename_i hc
      simp only [not_or, Nat.not_lt] at hc
      rw [Option.map_eq_some_iff] at h
      obtain ⟨⟨ys, q'⟩, hp, he⟩ := h
      injection he with h1 h2
      subst h1 h2
      obtain ⟨i1, i2, i3⟩ := parseN_read k _ ys q' hp
      have ht : ((r.drop 2).take (be (r.take 2))).length = be (r.take 2) := by rw [List.length_take]; omega
      have hr2 : (r.take 2).length = 2 := by rw [List.length_take]; omega
      refine ⟨?_, by simp [i2], fun x hx => ?_⟩
      · have hn := nb_be (r.take 2)
        rw [hr2] at hn
        rw [List.flatMap_cons, ht, hn, List.append_assoc, List.append_assoc, ← i1, List.take_append_drop, List.take_append_drop]
      · rcases List.mem_cons.1 hx with rfl | hx
        · omega
        · exact i3 x hx
theorem full_read {l : List UInt8} {xs : List (List UInt8)} (h : full l = some xs) : fieldsB xs = l ∧ xs.length ≤ 200 ∧ ∀ x ∈ xs, x.length ≤ 300 := by
  unfold full at h
  split at h
  · rename_i ys hp
    injection h with h
    subst h
    unfold parseF at hp
    split at hp
    · cases hp
    · rename_i hc
      simp only [not_or, Nat.not_lt] at hc
      obtain ⟨h1, h2, h3⟩ := parseN_read _ _ _ _ hp
      cases l with
      | nil => simp at hc
      | cons c l =>
        simp only [List.take_succ_cons, List.take_zero, be_one, List.drop_succ_cons, List.drop_zero, List.append_nil] at h1 h2 hc
        refine ⟨?_, by omega, h3⟩
        rw [fieldsB, h2, ← h1]
        have hcl := c.toNat_lt
        rw [show c.toNat % 256 = c.toNat from by omega]
        simp
  · cases h
theorem any_short {xs : List (List UInt8)} (h : ∀ x ∈ xs, x.length ≤ 300) : xs.any longB = false := by
  rw [List.any_eq_false]
  intro x hx
  have := h x hx
  simp [longB]
  omega
theorem fb_short {xs : List (List UInt8)} (hl : xs.length ≤ 200) (h : ∀ x ∈ xs, x.length ≤ 300) : fbM xs = (fieldsB xs, 0) := by
  rw [fbM, if_neg (by omega), if_neg (by omega), any_short h]
  rfl
theorem fieldsB_len {xs : List (List UInt8)} (hl : xs.length ≤ 200) (h : ∀ x ∈ xs, x.length ≤ 300) : (fieldsB xs).length ≤ 65536 := by
  have := fb_len xs 300 h
  have h2 : xs.length * (300 + 2) ≤ 200 * (300 + 2) := Nat.mul_le_mul_right _ hl
  rw [fieldsB, List.length_cons]
  omega
theorem rf_back {xs : List (List UInt8)} (hl : xs.length ≤ 200) (h : ∀ x ∈ xs, x.length ≤ 300) : rfM (fieldsB xs) = (xs, 0) := by
  rw [rfM, if_neg (by have := fieldsB_len hl h; omega), full_write xs hl h]
theorem drawn_short {x : List UInt8} (h : x ∈ drawnTexts) : x.length ≤ 4 := by
  simp [drawnTexts] at h
  rcases h with rfl | rfl | rfl | rfl <;> simp
theorem rf_codes (l : List UInt8) : ((rfM l).2 = 0 ∧ fbM (rfM l).1 = (l, 0)) ∨ (rfM l).2 = 2 ∨ (rfM l).2 = 3 := by
  unfold rfM
  split
  · simp
  · split
    · rename_i ys h
      obtain ⟨h1, h2, h3⟩ := full_read h
      left
      refine ⟨rfl, ?_⟩
      rw [fb_short h2 h3, h1]
    · simp
theorem rf_small (l : List UInt8) : (rfM l).1.length ≤ 200 ∧ ∀ x ∈ (rfM l).1, x.length ≤ 300 := by
  unfold rfM
  split
  · simp
  · split
    · rename_i ys h
      obtain ⟨_, h2, h3⟩ := full_read h
      exact ⟨h2, h3⟩
    · simp
set_option maxRecDepth 100000 in
theorem sameTexts_any (A B : Option Addr) (c d : Nat) (xs ys : List ByteArray) (w : World) (hx : Rd w w.heap.size A (xs.map Value.string)) (hy : Rd w w.heap.size B (ys.map Value.string)) (hl : xs.length ≤ maxLen) (hl' : ys.length ≤ maxLen) :
    Calls Try.prog 50 #[.slice A xs.length c, .slice B ys.length d] w fun e w' => e = .returned (.bool (decide (xs = ys))) ∧ Below w.heap.size w w' := by
  unfold maxLen at hl hl'
  by_cases hne : xs.length = ys.length
  · generalize hr : decide (xs = ys) = r
    have HR := Lib.hid hr
    clear hr
    have hle : xs.length ≤ ys.length := by omega
    have hge : ys.length ≤ xs.length := by omega
    have HX := Lib.hid hx
    have HY := Lib.hid hy
    clear hx hy
    have hb0 : ((xs.length : Int) != (ys.length : Int)) = false := by rw [hne]; simp
    clear hne
    go_enter Try.func50, Try.ntmps50
    go_wp2
    go_loopw [5] (fun i wr => ∃ k q : Nat, k ≤ xs.length ∧ i = .int .i64 k ∧ xs.take k = ys.take k ∧ wr = w.drewN q) (fun i _ => xs.length - (intOf i).toNat)
    case atStart => exact ⟨0, 0, Nat.zero_le _, rfl, rfl, rfl⟩
    case round =>
      obtain ⟨k, q, hk, rfl, ht, rfl⟩ := hrel
      have HT := Lib.hid ht
      clear ht
      by_cases hlt : k < xs.length
      · have hlt' : k < ys.length := by omega
        obtain ⟨ad, rfl, _, hca⟩ := HX.out.at_ (map_at hlt)
        obtain ⟨bd, rfl, _, hcb⟩ := HY.out.at_ (map_at hlt')
        cases he : (xs[k].toList == ys[k].toList) with
        | true =>
          have hb1 : (xs[k].toList != ys[k].toList) = false := by simp [bne, he]
          go_wp2
          go_quiet (fail)
          go_wp2
          go_roundw
          case rel => exact ⟨k + 1, _, by omega, by go_num, take_eq_succ hlt hlt' HT.out (bytes_of_eq he), rfl⟩
          case measure => simp [intOf]; omega
        | false =>
          have hb1 : (xs[k].toList != ys[k].toList) = true := by simp [bne, he]
          go_wp2
          go_quiet (fail)
          go_wp2
          go_ret
          exact ⟨(by rw [show r = false from HR.out.symm.trans (ne_of_at hlt hlt' he)]; rfl), (by repeat (first | exact Below.refl _ _ | assumption | refine Below.drew ?_ | refine below_drewN ?_ _ | refine Below.setCell ?_ (by first | exact Nat.le_refl _ | exact Below.size (by assumption) | (simp; done) | (simp; omega) | omega) _ | refine Below.alloc ?_ (by first | exact Nat.le_refl _ | exact Below.size (by assumption) | (simp; done) | (simp; omega) | omega) _))⟩
      · go_wp2
        go_ret
        exact ⟨(by rw [show r = true from HR.out.symm.trans (decide_eq_true (by have := HT.out; rwa [List.take_of_length_le (by omega), List.take_of_length_le (by omega)] at this))]; rfl), (by repeat (first | exact Below.refl _ _ | assumption | refine Below.drew ?_ | refine below_drewN ?_ _ | refine Below.setCell ?_ (by first | exact Nat.le_refl _ | exact Below.size (by assumption) | (simp; done) | (simp; omega) | omega) _ | refine Below.alloc ?_ (by first | exact Nat.le_refl _ | exact Below.size (by assumption) | (simp; done) | (simp; omega) | omega) _))⟩
  · have hr : decide (xs = ys) = false := by
      simp
      intro h
      exact hne (by rw [h])
    rw [hr]
    clear hr hx hy
    have hb0 : ((xs.length : Int) != (ys.length : Int)) = true := by simp; omega
    clear hne
    go_enter Try.func50, Try.ntmps50
    go_wp2
    go_ret
    exact ⟨rfl, Below.refl _ _⟩

theorem sameT (A B : Option Addr) (c d : Nat) (xs : List (List UInt8)) (w : World) (hx : Rd w w.heap.size A (xs.map sv)) (hy : Rd w w.heap.size B (xs.map sv)) (hl : xs.length ≤ 1048576) :
    Calls Try.prog 50 #[.slice A xs.length c, .slice B xs.length d] w fun e w' => e = .returned (.bool true) ∧ Below w.heap.size w w' := by
  have e : (xs.map bs).map Value.string = xs.map sv := by rw [List.map_map]; rfl
  have h := sameTexts_any A B c d (xs.map bs) (xs.map bs) w (by rw [e]; exact hx) (by rw [e]; exact hy) (by rw [List.length_map]; simp only [maxLen]; omega) (by rw [List.length_map]; simp only [maxLen]; omega)
  rw [List.length_map] at h
  simpa using h
theorem fb_use {xs : List (List UInt8)} {r : List UInt8 × Int} (hr : fbM xs = r) {w w' : World} {e : Ending} (h : FBPost xs w e w') : ∃ A c, e = .returned (.tuple #[.slice A r.1.length c, .int .i64 r.2]) ∧ Rd w' w'.heap.size A (r.1.map bv) ∧ Below w.heap.size w w' := by
  subst hr
  exact h
theorem rf_use {xs : List UInt8} {r : List (List UInt8) × Int} (hr : rfM xs = r) {w w' : World} {e : Ending} (h : RFPost w xs e w') : ∃ A c, e = .returned (.tuple #[.slice A r.1.length c, .int .i64 r.2]) ∧ Rd w' w'.heap.size A (r.1.map sv) ∧ Below w.heap.size w w' := by
  subst hr
  obtain ⟨v, he, ho, _, hb⟩ := h
  obtain ⟨A, c, rfl, _⟩ := own_form ho
  exact ⟨A, c, he, Rd.own ho, hb⟩

set_option maxRecDepth 100000 in
set_option maxHeartbeats 1000000 in
theorem law_any (A B : Option Addr) (c d : Nat) (xs ys : List UInt8) (w : World) (hx : Rd w w.heap.size A (xs.map bv)) (hy : Rd w w.heap.size B (ys.map bv)) (hm : xs.length ≤ maxLen) (hm' : ys.length ≤ maxLen) :
    Calls Try.prog 9 #[.slice A xs.length c, .slice B ys.length d] w fun e w' => e = .returned (.bool true) ∧ Below w.heap.size w w' := by
  unfold maxLen at hm hm'
  by_cases hbig : 1048576 < xs.length
  · go_enter Try.func9, Try.ntmps9
    go_wp2
    go_ret
    exact ⟨rfl, Below.refl _ _⟩
  · by_cases hbig2 : 1048576 < ys.length
    · go_enter Try.func9, Try.ntmps9
      go_wp2
      go_ret
      exact ⟨rfl, Below.refl _ _⟩
    · have HX := Lib.hid hx
      have HY := Lib.hid hy
      clear hx hy
      go_enter Try.func9, Try.ntmps9
      go_wp2_with fail
      refine (textsOf_any A c xs _ HX.out (by omega)).mono ?_
      rintro e w1 ⟨v, ts, rfl, hl, hall, ho, hb1⟩
      obtain ⟨T, tc, rfl, _⟩ := own_form ho
      have HT := Lib.hid (Rd.own ho)
      have hs300 : ∀ x ∈ ts, x.length ≤ 300 := fun x hx => by have := drawn_short (hall x hx); omega
      have HS := Lib.hid (And.intro hs300 (And.intro (fb_short (by omega) hs300) (rf_back (by omega) hs300)))
      have hlen := fieldsB_len (xs := ts) (by omega) hs300
      have HB1 := Lib.hid hb1
      clear ho hall hb1 hs300
      go_wp2_with fail
      refine (implFieldsBytes_any T tc ts _ HT.out (by omega) (fun x hx => by have := HS.out.1 x hx; omega)).mono ?_
      rintro e w2 hp
      obtain ⟨F, fc, rfl, hr2, hb2⟩ := fb_use HS.out.2.1 hp
      have HF := Lib.hid hr2
      have HB2 := Lib.hid hb2
      clear hp hr2 hb2
      go_wp2_with fail
      refine (specFieldsBytes_any T tc ts _ (HT.out.next HB2.out) (by omega) (fun x hx => by have := HS.out.1 x hx; omega)).mono ?_
      rintro e w3 hp
      obtain ⟨G, gc, rfl, hr3, hb3⟩ := fb_use HS.out.2.1 hp
      have HG := Lib.hid hr3
      have HB3 := Lib.hid hb3
      clear hp hr3 hb3
      go_wp2_with fail
      refine (implReadFields_rd F fc _ (fieldsB ts) _ (HF.out.next HB3.out) (by omega)).mono ?_
      rintro e w4 hp
      obtain ⟨R, rc, rfl, hr4, hb4⟩ := rf_use HS.out.2.2 hp
      have HR := Lib.hid hr4
      have HB4 := Lib.hid hb4
      clear hp hr4 hb4
      have q1 := conv_rd (c := fc) ((HF.out.next HB3.out).next HB4.out)
      have q2 := conv_rd (c := gc) (HG.out.next HB4.out)
      have q3 : ((bs (fieldsB ts)).toList == (bs (fieldsB ts)).toList) = true := by simp
      have q4 : ((bs (fieldsB ts)).toList != (bs (fieldsB ts)).toList) = false := by simp
      go_wp2_with fail
      refine (sameT R T rc tc ts _ HR.out (HT.out.next (below_after (below_after HB2.out HB3.out) HB4.out)) (by omega)).mono ?_
      rintro e w5 ⟨rfl, hb5⟩
      have HB5 := Lib.hid (below_after (below_after (below_after (below_after HB1.out HB2.out) HB3.out) HB4.out) hb5)
      clear hb5 q1 q2 q3 q4 HB1 HB2 HB3 HB4 HF HG HR HT HS
      go_wp2_with fail
      refine (implReadFields_rd B d _ ys _ (HY.out.next HB5.out) (by omega)).mono ?_
      rintro e w6 hp
      obtain ⟨R, rc, rfl, hr6, hb6⟩ := rf_use rfl hp
      have HR := Lib.hid hr6
      have HB6 := Lib.hid (below_after HB5.out hb6)
      clear hp hr6 hb6
      go_wp2_with fail
      refine (specReadFields_rd B d _ ys _ (HY.out.next HB6.out) (by omega)).mono ?_
      rintro e w7 hp
      obtain ⟨R', rc', rfl, _, hb7⟩ := rf_use rfl hp
      have HR7 := Lib.hid (HR.out.next hb7)
      have HB7 := Lib.hid (below_after HB6.out hb7)
      clear hp hb7 HR
      have hc0 : ((rfM ys).2 != (rfM ys).2) = false := by simp
      have hcodes := rf_codes ys
      have hsm := rf_small ys
      generalize hgr : rfM ys = r at *
      have HC := Lib.hid hcodes
      have HSM := Lib.hid hsm
      have hsm1 := hsm.1
      clear hcodes hsm hgr
      by_cases hz : r.2 = 0
      · have hz1 : (r.2 != 0) = false := by simp [hz]
        have hfb : fbM r.1 = (ys, 0) := by
          rcases HC.out with h | h | h
          · exact h.2
          · omega
          · omega
        have HFB := Lib.hid hfb
        clear hz hfb HC
        go_wp2_with fail
        refine (implFieldsBytes_any R rc r.1 _ HR7.out (by omega) (fun x hx => by have := HSM.out.2 x hx; omega)).mono ?_
        rintro e w8 hp
        obtain ⟨F, fc, rfl, hr8, hb8⟩ := fb_use HFB.out hp
        have q1 := conv_rd (c := fc) hr8
        have q2 := conv_rd (c := d) ((HY.out.next HB7.out).next hb8)
        have q3 : ((bs ys).toList == (bs ys).toList) = true := by simp
        have HB8 := Lib.hid (below_after HB7.out hb8)
        clear hp hr8 hb8
        go_wp2_with fail
        go_ret
        exact ⟨rfl, HB8.out⟩
      · have hz1 : (r.2 != 0) = true := by simp [hz]
        clear hz
        go_wp2_with fail
        go_ret
        exact ⟨rfl, HB7.out⟩

set_option maxRecDepth 100000 in
theorem lifted (os : Os) (started : os.Started) (H : Type) (enc : TypeId × Value → H) :
    ReturnsInHanded {} Try.checked os 9 .any (Rows.fnFieldsSpec.pre6 enc Try.prog Try.f9 Rows.fnFieldsRow.domain false) (Rows.fnFieldsSpec.post enc Try.prog Try.f9 false true false false) := by
  refine returnsInHanded_of_change_sized (C := Try.checked) Facts.own started (by kernel_rfl) Try.func9
    (ChangeSpec.witness6 (enc := enc) (C := Try.checked) false ⟨#[], #[.slice none 0 0, .slice none 0 0], []⟩ 8 (by kernel_rfl) (by kernel_rfl) (by kernel_rfl) (by kernel_rfl)) ?_
  intro W base args ds gs before hval0 hW hcnd hsz0 _
  have hsz : (DataW.weightsEach Try.prog (Try.f9.params.toList ++ Rows.fnFieldsSpec.plain.varTypes Try.prog) (ds ++ gs)).all (· ≤ reachBytes) = true := hsz0
  have hval : ∀ (j : Nat) t v, Try.f9.params[j]? = some t → args[j]? = some v → Value.okWide Try.prog W .any base t v := hval0
  have hW' := hW
  obtain ⟨p, q, hA0, hV, rfl, hfz, hnd⟩ := hW
  have hA : DataW.TrodAll enc Try.prog W 0 (fun _ => true) true Try.f9.params.toList args.toList ds p := hA0
  rw [Try.params9] at hA hval hsz
  obtain ⟨rfl, rfl⟩ := trodVars_none hV
  have hltp : ∀ x ∈ p, x.block < W.heap.size := fun x hx => by simpa using hW'.lt x (by simp [hx])
  clear hA0 hval0 hsz0
  obtain ⟨v0, v1, d0, d1, p0, p1, rfl, rfl, rfl, h0, h1⟩ := trodAll_two hA
  obtain ⟨A, c, xs, rfl, hx, hm⟩ := open_bytes (hval 0 39 v0 rfl rfl) h0
  obtain ⟨B, d, ys, rfl, hy, hm'⟩ := open_bytes (hval 1 39 v1 rfl rfl) h1
  refine (law_any A B c d xs ys W hx hy hm hm').mono fun e W' ⟨he, bel⟩ => ?_
  subst he
  exact ⟨_, rfl, _, _, _, [], _, [], hW', trodAll_mk1 (shut_bool Try.underlying4 _), trodAll_mk2 (Below.trod Facts.laidOut (by kernel_rfl) (of_decide_eq_true (by kernel_rfl)) h0 bel (fun x hx => hltp x (List.mem_append_left _ hx))) (Below.trod Facts.laidOut (by kernel_rfl) (of_decide_eq_true (by kernel_rfl)) h1 bel (fun x hx => hltp x (List.mem_append_right _ hx))), rfl, bel.frame _, fun h => by cases h⟩
theorem named_ : Try.pinned.checked.prog.funcNamed Rows.fnFieldsRow.func = some 9 := by kernel_rfl
set_option maxHeartbeats 8000000 in
theorem closed_ : joinedFacts Try.pinned.checked.prog 9 Try.f9 Rows.fnFieldsSpec Rows.fnFieldsRow = true := by
  unfold joinedFacts
  with_reducible repeat' (refine Facts.and_t ?_ ?_)
  all_goals first
    | with_reducible exact Facts.laidOut
    | with_reducible exact Facts.mapsRowed
    | with_reducible exact Facts.stopsHeard
    | with_reducible exact Facts.mayEnter
    | (rw [Facts.plainKeys]; as_aux_lemma => kernel_rfl)
    | (rw [Facts.lifts]; as_aux_lemma => kernel_rfl)
    | (rw [Facts.make_]; as_aux_lemma => kernel_rfl)
    | as_aux_lemma => kernel_rfl
theorem inst_ : Try.f9.isInstance Try.pinned.checked.prog Rows.fnFieldsRow.origin Rows.fnFieldsRow.targs := of_decide_eq_true (by kernel_rfl)
theorem wrap_ : Try.f9.isWrapper Try.pinned.checked.prog Rows.fnFieldsRow.wrapper Rows.fnFieldsRow.mainSum := by unfold Func.isWrapper; first | (rw [if_pos (by decide +kernel)]; kernel_rfl) | (rw [if_neg (by decide +kernel)]; exact ⟨rfl, rfl⟩)
theorem over : Rows.fnFieldsRow.holds Try.pinned (OpenSpec.ofChange Rows.fnFieldsSpec) :=
  OpenClaim.holds_of_wide 9 Try.f9 rfl rfl rfl rfl rfl rfl rfl ⟨rfl, rfl, rfl, rfl, rfl⟩ rfl rfl rfl rfl rfl named_ Try.func9 closed_ inst_ wrap_
    (fun os started H enc _ => lifted os started H enc)
theorem proved : Rows.FnFieldsSaid := over
#print axioms proved
end Go.Proofs.Ytlfnpnkpjdmonaa.lawFields
namespace Go.Proofs.Ytlfnpnkpjdmonaa
/-- The row, under a short name, for the claim. -/
theorem fnFields_holds : Rows.FnFieldsSaid := lawFields.proved
end Go.Proofs.Ytlfnpnkpjdmonaa
