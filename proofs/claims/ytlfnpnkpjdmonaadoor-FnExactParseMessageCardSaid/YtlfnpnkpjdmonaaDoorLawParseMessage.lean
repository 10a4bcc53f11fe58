/- At any text, the program's ParseMessage answers as the reference's: the same message, the same code; its answers are new memory. The card ties the two listed tables of the library to the program's text. There are no conditions of ours. -/
import Derived.Test.YtlfnpnkpjdmonaaDoorDCard
import Derived.Test.YtlfnpnkpjdmonaaDoorCards
import Derived.Test.YtlfnpnkpjdmonaaDoorMsg7
import Derived.ProofKit
import Derived.OpenShut
import Derived.ShutString
import Derived.ChangeOld
import Derived.Carry
import Derived.SizedLaws
set_option linter.unusedVariables false
set_option linter.unusedSimpArgs false
namespace Go.Proofs.YtlfnpnkpjdmonaaDoor.lawParseMessage
open Go.ChangeShapes Go.WideShapes Go.ChangeAt Go.RowKit Go.Joins
open Go.ChangeMaps (open_string shut_string)

theorem bs_eta (s : ByteArray) : s = bs s.data.toList := by cases s; rfl
def PM (fs : List Pr) (b : ByteArray) (er : Int) (w : World) (e : Ending) (w' : World) : Prop := ∃ A c, e = .returned (.tuple #[msgV A fs.length c b, .int .i64 er]) ∧ w'.ownsRow w.heap.size 49 2 (.slice A fs.length c) fs.length (flat encP fs) ∧ Below w.heap.size w w'
theorem specPM {l : List UInt8} {fs : List Pr} {b : ByteArray} {er : Int} (hq : pmM l = ((fs, b), er)) (hl : l.length ≤ 1048576) (w : World) : Calls Tryd.prog 13 #[.string (bs l)] w (PM fs b er w) := by
  have h := specParseMessage_any l w hl
  rw [hq] at h
  exact h
theorem implPM {l : List UInt8} {fs : List Pr} {b : ByteArray} {er : Int} (hq : pmM l = ((fs, b), er)) (hl : l.length ≤ 1048576) {w w' : World} (hm : ML w) (hb : Below w.heap.size w w') : Calls Tryd.prog 14 #[.string (bs l)] w' (PM fs b er w') := by
  have h := implParseMessage_any l w' (hm.below hb) hl
  rw [hq] at h
  exact h
theorem eqM {b : ByteArray} {xs : List Pr} {D E : Option Addr} {c d b1 b2 : Nat} {w : World} (hu : w.ownsRow b1 49 2 (.slice D xs.length c) xs.length (flat encP xs)) (hv : w.ownsRow b2 49 2 (.slice E xs.length d) xs.length (flat encP xs)) (hl : xs.length ≤ 1048576) :
    Calls Tryd.prog 15 #[msgV D xs.length c b, msgV E xs.length d b] w fun e w' => e = .returned (.bool true) ∧ Below w.heap.size w w' :=
  eqMessage_eq b D E c d xs w (Rd.own hu) (Rd.own hv) hl
theorem box2 {w : World} {g : Nat} {a0 a1 : Value} {T : TypeId} (h : w.heap[g]? = some (.cells #[a0, a1] T (0, 0))) : w.cell? ⟨g, 0, none⟩ = some a0 ∧ w.cell? ⟨g, 1, none⟩ = some a1 :=
  ⟨by rw [cell_of_row w _ 0 _ _ _ h]; rfl, by rw [cell_of_row w _ 1 _ _ _ h]; rfl⟩
theorem pm_len (l : List UInt8) : (pmM l).1.1.length ≤ 8 := by
  unfold pmM parI parM
  split
  · simp
  · split
    · simp
    · rename_i p hp
      split at hp
      · cases hp
      · split at hp
        · cases hp
        · split at hp
          · cases hp; assumption
          · cases hp
set_option maxRecDepth 100000 in
set_option maxHeartbeats 4000000 in
theorem law_any (l : List UInt8) (w : World) (hml : ML w) (hsz : (bs l).size ≤ maxLen) :
    Calls Tryd.prog 5 #[.string (bs l)] w fun e w' => e = .returned (.bool true) ∧ Below w.heap.size w w' := by
  rw [bs_size] at hsz
  unfold maxLen at hsz
  have hs0 := bs_size l
  by_cases h1 : 1048576 < l.length
  · go_enter Tryd.func5, Tryd.ntmps5
    go_wp2
    go_ret
    exact ⟨rfl, Below.refl _ _⟩
  have hl : (pmM l).1.1.length ≤ 8 := pm_len l
  generalize hq : pmM l = q at *
  obtain ⟨⟨fs, b⟩, er⟩ := q
  have HQ := Lib.hid hq
  have HL : Hid (fs.length ≤ 8) := hl
  have HLL : Hid (l.length ≤ 1048576) := by show _ ≤ _; omega
  have HM := Lib.hid hml
  clear hl hq hml
  go_enter Tryd.func5, Tryd.ntmps5
  go_wp2_with fail
  refine (specPM HQ.out HLL.out _).mono ?_
  rintro e w1 ⟨D1, dc1, rfl, ho1, hb1⟩
  have hZ1 : Below w.heap.size w w1 := below_after (Below.refl _ _) hb1
  have hs1 : w.heap.size ≤ w1.heap.size := hb1.size
  have HZ1 := Lib.hid hZ1
  have HB1 := Lib.hid hb1
  clear hZ1 hb1
  have HOS := Lib.hid ho1
  have HIS : Hid (∀ k, (Value.slice D1 fs.length dc1).ownBlock = some k → w.heap.size ≤ k ∧ k < w1.heap.size) := fun k hk => HOS.out.lt k hk
  clear ho1
  obtain ⟨w2, hw2⟩ : ∃ W : World, W = w1.alloc (.cells #[.slice D1 fs.length dc1, .string b] 28) := ⟨_, rfl⟩
  have hb2 : Below w1.heap.size w1 w2 := by rw [hw2]; exact (Below.refl _ _).alloc (Nat.le_refl _) _
  have hx2 : w2.heap[w1.heap.size]? = some (.cells #[.slice D1 fs.length dc1, .string b] 28 (0, 0)) := by rw [hw2]; exact heap_alloc_new _ _
  have hZ2 : Below w.heap.size w w2 := below_after HZ1.out hb2
  have hs2 : w1.heap.size < w2.heap.size := by rw [hw2]; simp
  have HZ2 := Lib.hid hZ2
  have HB2 := Lib.hid hb2
  have HW2 := Lib.hid hw2
  have HXP := Lib.hid hx2
  clear hZ2 hb2 hw2 hx2
  go_wp2_with fail
  rw [← HW2.out]
  refine (implPM HQ.out HLL.out HM.out HZ2.out).mono ?_
  rintro e w3 ⟨D3, dc3, rfl, ho3, hb3⟩
  have hZ3 : Below w.heap.size w w3 := below_after HZ2.out hb3
  have hs3 : w2.heap.size ≤ w3.heap.size := hb3.size
  have HZ3 := Lib.hid hZ3
  have HB3 := Lib.hid hb3
  clear hZ3 hb3
  have HOG := Lib.hid ho3
  have HIG : Hid (∀ k, (Value.slice D3 fs.length dc3).ownBlock = some k → w2.heap.size ≤ k ∧ k < w3.heap.size) := fun k hk => HOG.out.lt k hk
  clear ho3
  obtain ⟨w4, hw4⟩ : ∃ W : World, W = w3.alloc (.cells #[.slice D3 fs.length dc3, .string b] 28) := ⟨_, rfl⟩
  have hb4 : Below w3.heap.size w3 w4 := by rw [hw4]; exact (Below.refl _ _).alloc (Nat.le_refl _) _
  have hx4 : w4.heap[w3.heap.size]? = some (.cells #[.slice D3 fs.length dc3, .string b] 28 (0, 0)) := by rw [hw4]; exact heap_alloc_new _ _
  have hZ4 : Below w.heap.size w w4 := below_after HZ3.out hb4
  have hs4 : w3.heap.size < w4.heap.size := by rw [hw4]; simp
  have HZ4 := Lib.hid hZ4
  have HB4 := Lib.hid hb4
  have HW4 := Lib.hid hw4
  have HXQ := Lib.hid hx4
  clear hZ4 hb4 hw4 hx4
  obtain ⟨cQ0, cQ1⟩ := box2 HXQ.out
  rw [HW4.out] at cQ0 cQ1
  obtain ⟨cP0, cP1⟩ := box2 ((HB4.out.block _ (by omega)).trans ((HB3.out.block _ (by omega)).trans HXP.out))
  rw [HW4.out] at cP0 cP1
  go_wp2_with fail
  rw [← HW4.out]
  clear cQ0 cQ1 cP0 cP1
  refine (eqM (own_below HOG.out HB4.out) (own_below (own_below (own_below HOS.out HB2.out) HB3.out) HB4.out) (by have := HL.out; omega)).mono ?_
  rintro e w5 ⟨rfl, hb5⟩
  have hZ5 : Below w.heap.size w w5 := below_after HZ4.out hb5
  have hs5 : w4.heap.size ≤ w5.heap.size := hb5.size
  have HZ5 := Lib.hid hZ5
  have HB5 := Lib.hid hb5
  clear hZ5 hb5
  obtain ⟨cQ0, cQ1⟩ := box2 ((HB5.out.block _ (by omega)).trans HXQ.out)
  go_wp2_with fail
  clear cQ0 cQ1
  refine (markMessage_any b _ _ _ _ _ 1 _ (own_below (own_below HOG.out HB4.out) HB5.out) (by have := HL.out; omega) (by omega) (by omega)).mono ?_
  rintro e w6 ⟨rfl, ⟨cs6, ho6, hm6⟩, hb6⟩
  have hZ6 : Below w.heap.size w w6 := below_grown_own HZ5.out hb6 HIG.out (by omega)
  have hs6 : w5.heap.size ≤ w6.heap.size := hb6.size
  have HZ6 := Lib.hid hZ6
  have HB6 := Lib.hid hb6
  clear hZ6 hb6
  have HK := Lib.hid hm6
  clear hm6
  have HOM := Lib.hid ho6
  clear ho6
  obtain ⟨cQ0, cQ1⟩ := box2 ((HB6.out.block _ (by omega) (fun e => own_ne_blk (own_below (own_below HOG.out HB4.out) HB5.out) ((HB5.out.block _ (by omega)).trans HXQ.out) (by decide) e.symm)).trans ((HB5.out.block _ (by omega)).trans HXQ.out))
  go_wp2_with fail
  clear cQ0 cQ1
  refine (heldMessage_any b _ _ _ _ _ 1 _ HOM.out HK.out (by have := HL.out; omega) (by omega) (by omega)).mono ?_
  rintro e w7 ⟨rfl, hb7⟩
  have hZ7 : Below w.heap.size w w7 := below_after HZ6.out hb7
  have hs7 : w6.heap.size ≤ w7.heap.size := hb7.size
  have HZ7 := Lib.hid hZ7
  have HB7 := Lib.hid hb7
  clear hZ7 hb7
  go_wp2_with fail
  refine (implPM HQ.out HLL.out HM.out HZ7.out).mono ?_
  rintro e w8 ⟨D8, dc8, rfl, ho8, hb8⟩
  have hZ8 : Below w.heap.size w w8 := below_after HZ7.out hb8
  have hs8 : w7.heap.size ≤ w8.heap.size := hb8.size
  have HZ8 := Lib.hid hZ8
  have HB8 := Lib.hid hb8
  clear hZ8 hb8
  have HOH := Lib.hid ho8
  have HIH : Hid (∀ k, (Value.slice D8 fs.length dc8).ownBlock = some k → w7.heap.size ≤ k ∧ k < w8.heap.size) := fun k hk => HOH.out.lt k hk
  clear ho8
  obtain ⟨w9, hw9⟩ : ∃ W : World, W = w8.alloc (.cells #[.slice D8 fs.length dc8, .string b] 28) := ⟨_, rfl⟩
  have hb9 : Below w8.heap.size w8 w9 := by rw [hw9]; exact (Below.refl _ _).alloc (Nat.le_refl _) _
  have hx9 : w9.heap[w8.heap.size]? = some (.cells #[.slice D8 fs.length dc8, .string b] 28 (0, 0)) := by rw [hw9]; exact heap_alloc_new _ _
  have hZ9 : Below w.heap.size w w9 := below_after HZ8.out hb9
  have hs9 : w8.heap.size < w9.heap.size := by rw [hw9]; simp
  have HZ9 := Lib.hid hZ9
  have HB9 := Lib.hid hb9
  have HW9 := Lib.hid hw9
  have HXR := Lib.hid hx9
  clear hZ9 hb9 hw9 hx9
  obtain ⟨cR0, cR1⟩ := box2 HXR.out
  rw [HW9.out] at cR0 cR1
  obtain ⟨cP0, cP1⟩ := box2 ((HB9.out.block _ (by omega)).trans ((HB8.out.block _ (by omega)).trans ((HB7.out.block _ (by omega)).trans ((HB6.out.block _ (by omega) (fun e => own_ne_blk (own_below (own_below HOG.out HB4.out) HB5.out) ((HB5.out.block _ (by omega)).trans ((HB4.out.block _ (by omega)).trans ((HB3.out.block _ (by omega)).trans HXP.out))) (by decide) e.symm)).trans ((HB5.out.block _ (by omega)).trans ((HB4.out.block _ (by omega)).trans ((HB3.out.block _ (by omega)).trans HXP.out)))))))
  rw [HW9.out] at cP0 cP1
  go_wp2_with fail
  rw [← HW9.out]
  clear cR0 cR1 cP0 cP1
  refine (eqM (own_below HOH.out HB9.out) (own_below (own_below (own_below ((own_below (own_below (own_below (own_below HOS.out HB2.out) HB3.out) HB4.out) HB5.out).kept HB6.out (ne_blocks HIS.out HIG.out (by omega))) HB7.out) HB8.out) HB9.out) (by have := HL.out; omega)).mono ?_
  rintro e w10 ⟨rfl, hb10⟩
  have hZ10 : Below w.heap.size w w10 := below_after HZ9.out hb10
  have hs10 : w9.heap.size ≤ w10.heap.size := hb10.size
  have HZ10 := Lib.hid hZ10
  have HB10 := Lib.hid hb10
  clear hZ10 hb10
  obtain ⟨cQ0, cQ1⟩ := box2 ((HB10.out.block _ (by omega)).trans ((HB9.out.block _ (by omega)).trans ((HB8.out.block _ (by omega)).trans ((HB7.out.block _ (by omega)).trans ((HB6.out.block _ (by omega) (fun e => own_ne_blk (own_below (own_below HOG.out HB4.out) HB5.out) ((HB5.out.block _ (by omega)).trans HXQ.out) (by decide) e.symm)).trans ((HB5.out.block _ (by omega)).trans HXQ.out))))))
  go_wp2_with fail
  clear cQ0 cQ1
  refine (heldMessage_any b _ _ _ _ _ 1 _ (own_below (own_below (own_below (own_below HOM.out HB7.out) HB8.out) HB9.out) HB10.out) HK.out (by have := HL.out; omega) (by omega) (by omega)).mono ?_
  rintro e w11 ⟨rfl, hb11⟩
  have hZ11 : Below w.heap.size w w11 := below_after HZ10.out hb11
  have hs11 : w10.heap.size ≤ w11.heap.size := hb11.size
  have HZ11 := Lib.hid hZ11
  have HB11 := Lib.hid hb11
  clear hZ11 hb11
  go_wp2_with fail
  go_ret
  exact ⟨rfl, HZ11.out⟩

set_option maxRecDepth 100000 in
theorem lifted (os : Os) (started : os.Started) (H : Type) (enc : TypeId × Value → H) :
    ReturnsInHanded {} Tryd.checked os 5 .any (fun w args => (Rows.fnExactParseMessageSpec.pre enc Tryd.prog Tryd.f5 Rows.fnExactParseMessageRow.domain false w args ∧ laidMetH Tryd.prog DCard.laid w) ∧ sizedMet enc Tryd.prog Tryd.f5 (OpenSpec.ofChange Rows.fnExactParseMessageSpec) false w args) (Rows.fnExactParseMessageSpec.post enc Tryd.prog Tryd.f5 false true false false) := by
  refine DCard.returns_and_shaped (C := Tryd.checked) (X := fun w _ => laidMetH Tryd.prog DCard.laid w) (fun _ _ _ hh h => h.of_heap hh) Facts.own started (by kernel_rfl) Tryd.func5
    (ChangeSpec.witness_shaped (enc := enc) (C := Tryd.checked) (os := os) (X := fun w _ => laidMetH Tryd.prog DCard.laid w) false (World.laidAll Tryd.prog os DCard.laid) #[.string ⟨#[]⟩] 8 (World.laidAll_os _ _ _) (DCard.shaped os _) (by kernel_rfl) (by kernel_rfl) (by kernel_rfl) (DCard.met os _)) ?_
  intro W base args ds gs before hval0 hW hcnd hsz0 hL hsh _
  have hsz : (DataW.weightsEach Tryd.prog (Tryd.f5.params.toList ++ Rows.fnExactParseMessageSpec.plain.varTypes Tryd.prog) (ds ++ gs)).all (· ≤ reachBytes) = true := hsz0
  have hval : ∀ (j : Nat) t v, Tryd.f5.params[j]? = some t → args[j]? = some v → Value.okWide Tryd.prog W .any base t v := hval0
  have hW' := hW
  obtain ⟨p, q, hA0, hV, rfl, hfz, hnd⟩ := hW
  have hA : DataW.TrodAll enc Tryd.prog W 0 (fun _ => true) true Tryd.f5.params.toList args.toList ds p := hA0
  rw [Tryd.params5] at hA hval hsz
  obtain ⟨rfl, rfl⟩ := trodVars_none hV
  have hltp : ∀ x ∈ p, x.block < W.heap.size := fun x hx => by simpa using hW'.lt x (by simp [hx])
  clear hA0 hval0 hsz0
  obtain ⟨v0, d0, rfl, rfl, h0⟩ := trodAll_one hA
  obtain ⟨s, rfl, rfl, rfl, hs⟩ := open_string Tryd.underlying9 (hval 0 9 v0 rfl rfl) h0
  obtain ⟨l, rfl⟩ : ∃ l, s = bs l := ⟨_, bs_eta s⟩
  have hml : ML W := Go.Proofs.cell_of_shapedOpen_int (zero := #[.int .i64 0]) (t := 3) hsh (of_decide_eq_true (by kernel_rfl)) (by kernel_rfl) rfl (by kernel_rfl) (by kernel_rfl) Tryd.underlying3
  refine (law_any l W hml hs).mono fun e W' ⟨he, bel⟩ => ?_
  subst he
  exact ⟨_, rfl, _, _, _, [], _, [], hW', trodAll_mk1 (shut_bool Tryd.underlying4 _), trodAll_mk1 (Below.trod Facts.laidOut (by kernel_rfl) (of_decide_eq_true (by kernel_rfl)) h0 bel hltp), rfl, bel.frame _, fun h => by cases h⟩
theorem named_ : Tryd.pinned.checked.prog.funcNamed Rows.fnExactParseMessageRow.func = some 5 := by kernel_rfl
set_option maxHeartbeats 8000000 in
theorem closed_ : joinedFacts Tryd.pinned.checked.prog 5 Tryd.f5 Rows.fnExactParseMessageSpec Rows.fnExactParseMessageRow = true := by
  unfold joinedFacts
  with_reducible repeat' (refine Facts.and_t ?_ ?_)
  all_goals first
    | with_reducible exact Facts.laidOut
    | with_reducible exact Facts.mapsRowed
    | with_reducible exact Facts.stopsHeard
    | with_reducible exact Facts.mayEnter
    | (rw [Facts.plainKeys]; as_aux_lemma => kernel_rfl)
    | (rw [Facts.lifts]; as_aux_lemma => kernel_rfl)
    | as_aux_lemma => kernel_rfl
theorem inst_ : Tryd.f5.isInstance Tryd.pinned.checked.prog Rows.fnExactParseMessageRow.origin Rows.fnExactParseMessageRow.targs := of_decide_eq_true (by kernel_rfl)
theorem wrap_ : Tryd.f5.isWrapper Tryd.pinned.checked.prog Rows.fnExactParseMessageRow.wrapper Rows.fnExactParseMessageRow.mainSum := by unfold Func.isWrapper; first | (rw [if_pos (by decide +kernel)]; kernel_rfl) | (rw [if_neg (by decide +kernel)]; exact ⟨rfl, rfl⟩)
theorem over : Rows.fnExactParseMessageRow.holds Tryd.pinned (OpenSpec.ofChange Rows.fnExactParseMessageSpec) :=
  OpenClaim.holds_of_wide 5 Tryd.f5 rfl rfl rfl rfl rfl rfl rfl ⟨rfl, rfl, rfl, rfl, rfl⟩ rfl rfl rfl rfl rfl named_ Tryd.func5 closed_ inst_ wrap_
    (fun os started H enc _ => lifted os started H enc)
theorem card : Rows.FnExactParseMessageCardSaid :=
  Claim7.holds_tied_plain_at .later [] [.data, .pinned] true (true, "a97576e0b56365ea0bdacdac97cfea5fd0ecb66bc38648dfe16dd45acbe255d1") true over (fun _ h => by cases h) (by kernel_rfl) (fun _ h => by cases h) fnExactParseMessage_row_tie rfl ⟨rfl, rfl⟩ (by kernel_rfl) rfl
    (fun f fn hf hfn => by
      obtain rfl : f = 5 := Option.some.inj (named_.symm.trans hf) |>.symm
      obtain rfl : fn = Tryd.f5 := (Option.some.inj (Tryd.func5.symm.trans hfn)).symm
      exact ⟨by kernel_rfl, fun j t ht => by
        rw [Tryd.params5] at ht
        have hm : t ∈ [9] := by simpa using Array.mem_of_getElem? ht
        have hall : ([9].all fun u => !Tryd.prog.wantsStandIn u) = true := by kernel_rfl
        exact (show Tryd.prog.wantsStandIn t = false by simpa using List.all_eq_true.1 hall t hm)⟩)
    (by kernel_rfl)
#print axioms card
end Go.Proofs.YtlfnpnkpjdmonaaDoor.lawParseMessage
namespace Go.Proofs.YtlfnpnkpjdmonaaDoor
/-- The card, under a short name, for the claim. -/
theorem fnExactParseMessage_holds : Rows.FnExactParseMessageCardSaid := lawParseMessage.card
end Go.Proofs.YtlfnpnkpjdmonaaDoor
