/- At any text and name, the program's FieldOf answers as the reference's. The card ties the two listed tables of the library to the program's text. There are no conditions of ours. -/
import Derived.Test.YtlfnpnkpjdmonaaDoorDCard
import Derived.Test.YtlfnpnkpjdmonaaDoorCards
import Derived.Test.YtlfnpnkpjdmonaaDoorMsg10
import Derived.ProofKit
import Derived.OpenShut
import Derived.ShutString
import Derived.ChangeOld
import Derived.Carry
import Derived.SizedLaws
set_option linter.unusedVariables false
set_option linter.unusedSimpArgs false
namespace Go.Proofs.YtlfnpnkpjdmonaaDoor.lawFieldOf
open Go.ChangeShapes Go.WideShapes Go.ChangeAt Go.RowKit Go.Joins
open Go.ChangeMaps (open_string shut_string)

theorem law_any (l nl : List UInt8) (w : World) (hm : ML w) (hl : (bs l).size ≤ maxLen) (hnl : (bs nl).size ≤ maxLen) :
    Calls Tryd.prog 4 #[.string (bs l), .string (bs nl)] w fun e w' => e = .returned (.bool true) ∧ Below w.heap.size w w' := by
  rw [bs_size] at hl hnl
  unfold maxLen at hl hnl
  have hs0 := bs_size l
  have hs1 := bs_size nl
  by_cases h1 : 1048576 < l.length
  · go_enter Tryd.func4, Tryd.ntmps4
    go_wp2
    go_ret
    exact ⟨rfl, Below.refl _ _⟩
  by_cases h2 : 1048576 < nl.length
  · go_enter Tryd.func4, Tryd.ntmps4
    go_wp2
    go_ret
    exact ⟨rfl, Below.refl _ _⟩
  have HC1 := Lib.hid (specFieldOf_any l nl w (by omega) (by omega))
  have HC2 : Hid (∀ W : World, Below w.heap.size w W → Calls Tryd.prog 12 #[.string (bs l), .string (bs nl)] W (FO (foM l nl) W)) := fun W hW => implFieldOf_any l nl W (hm.below hW) (by omega) (by omega)
  generalize foM l nl = r at HC1 HC2
  obtain ⟨rv, re⟩ := r
  have hrr : (re != re) = false := by simp
  clear hm
  go_enter Tryd.func4, Tryd.ntmps4
  go_wp2_with fail
  refine HC1.out.mono ?_
  rintro e w1 ⟨rfl, hb1⟩
  have HB1 := Lib.hid hb1
  clear hb1
  go_wp2_with fail
  refine (HC2.out _ HB1.out).mono ?_
  rintro e w2 ⟨rfl, hb2⟩
  have HB2 := Lib.hid (below_after HB1.out hb2)
  clear hb2
  go_wp2_with fail
  go_ret
  exact ⟨rfl, HB2.out⟩

set_option maxRecDepth 100000 in
theorem lifted (os : Os) (started : os.Started) (H : Type) (enc : TypeId × Value → H) :
    ReturnsInHanded {} Tryd.checked os 4 .any (fun w args => (Rows.fnExactFieldOfSpec.pre enc Tryd.prog Tryd.f4 Rows.fnExactFieldOfRow.domain false w args ∧ laidMetH Tryd.prog DCard.laid w) ∧ sizedMet enc Tryd.prog Tryd.f4 (OpenSpec.ofChange Rows.fnExactFieldOfSpec) false w args) (Rows.fnExactFieldOfSpec.post enc Tryd.prog Tryd.f4 false true false false) := by
  refine DCard.returns_and_shaped (C := Tryd.checked) (X := fun w _ => laidMetH Tryd.prog DCard.laid w) (fun _ _ _ hh h => h.of_heap hh) Facts.own started (by kernel_rfl) Tryd.func4
    (ChangeSpec.witness_shaped (enc := enc) (C := Tryd.checked) (os := os) (X := fun w _ => laidMetH Tryd.prog DCard.laid w) false (World.laidAll Tryd.prog os DCard.laid) #[.string ⟨#[]⟩, .string ⟨#[]⟩] 8 (World.laidAll_os _ _ _) (DCard.shaped os _) (by kernel_rfl) (by kernel_rfl) (by kernel_rfl) (DCard.met os _)) ?_
  intro W base args ds gs before hval0 hW hcnd hsz0 hL hsh _
  have hsz : (DataW.weightsEach Tryd.prog (Tryd.f4.params.toList ++ Rows.fnExactFieldOfSpec.plain.varTypes Tryd.prog) (ds ++ gs)).all (· ≤ reachBytes) = true := hsz0
  have hval : ∀ (j : Nat) t v, Tryd.f4.params[j]? = some t → args[j]? = some v → Value.okWide Tryd.prog W .any base t v := hval0
  have hW' := hW
  obtain ⟨p, q, hA0, hV, rfl, hfz, hnd⟩ := hW
  have hA : DataW.TrodAll enc Tryd.prog W 0 (fun _ => true) true Tryd.f4.params.toList args.toList ds p := hA0
  rw [Tryd.params4] at hA hval hsz
  obtain ⟨rfl, rfl⟩ := trodVars_none hV
  have hltp : ∀ x ∈ p, x.block < W.heap.size := fun x hx => by simpa using hW'.lt x (by simp [hx])
  clear hA0 hval0 hsz0
  obtain ⟨v0, v1, d0, d1, p0, p1, rfl, rfl, rfl, h0, h1⟩ := trodAll_two hA
  obtain ⟨s0, rfl, rfl, rfl, hs0⟩ := open_string Tryd.underlying9 (hval 0 9 v0 rfl rfl) h0
  obtain ⟨s1, rfl, rfl, rfl, hs1⟩ := open_string Tryd.underlying9 (hval 1 9 v1 rfl rfl) h1
  obtain ⟨l, rfl⟩ : ∃ l, s0 = bs l := ⟨_, bs_eta' s0⟩
  obtain ⟨nl, rfl⟩ : ∃ l, s1 = bs l := ⟨_, bs_eta' s1⟩
  have hml : ML W := Go.Proofs.cell_of_shapedOpen_int (zero := #[.int .i64 0]) (t := 3) hsh (of_decide_eq_true (by kernel_rfl)) (by kernel_rfl) rfl (by kernel_rfl) (by kernel_rfl) Tryd.underlying3
  refine (law_any l nl W hml hs0 hs1).mono fun e W' ⟨he, bel⟩ => ?_
  subst he
  exact ⟨_, rfl, _, _, _, [], _, [], hW', trodAll_mk1 (shut_bool Tryd.underlying4 _), trodAll_mk2 (Below.trod Facts.laidOut (by kernel_rfl) (of_decide_eq_true (by kernel_rfl)) h0 bel (fun x hx => hltp x (List.mem_append_left _ hx))) (Below.trod Facts.laidOut (by kernel_rfl) (of_decide_eq_true (by kernel_rfl)) h1 bel (fun x hx => hltp x (List.mem_append_right _ hx))), rfl, bel.frame _, fun h => by cases h⟩
theorem named_ : Tryd.pinned.checked.prog.funcNamed Rows.fnExactFieldOfRow.func = some 4 := by kernel_rfl
set_option maxHeartbeats 8000000 in
theorem closed_ : joinedFacts Tryd.pinned.checked.prog 4 Tryd.f4 Rows.fnExactFieldOfSpec Rows.fnExactFieldOfRow = true := by
  unfold joinedFacts
  with_reducible repeat' (refine Facts.and_t ?_ ?_)
  all_goals first
    | with_reducible exact Facts.laidOut
    | with_reducible exact Facts.mapsRowed
    | with_reducible exact Facts.stopsHeard
    | with_reducible exact Facts.mayEnter
    | (rw [Facts.plainKeys]; as_aux_lemma => kernel_rfl)
    | (rw [Facts.lifts]; as_aux_lemma => kernel_rfl)
    | as_aux_lemma => kernel_rfl
theorem inst_ : Tryd.f4.isInstance Tryd.pinned.checked.prog Rows.fnExactFieldOfRow.origin Rows.fnExactFieldOfRow.targs := of_decide_eq_true (by kernel_rfl)
theorem wrap_ : Tryd.f4.isWrapper Tryd.pinned.checked.prog Rows.fnExactFieldOfRow.wrapper Rows.fnExactFieldOfRow.mainSum := by unfold Func.isWrapper; first | (rw [if_pos (by decide +kernel)]; kernel_rfl) | (rw [if_neg (by decide +kernel)]; exact ⟨rfl, rfl⟩)
theorem over : Rows.fnExactFieldOfRow.holds Tryd.pinned (OpenSpec.ofChange Rows.fnExactFieldOfSpec) :=
  OpenClaim.holds_of_wide 4 Tryd.f4 rfl rfl rfl rfl rfl rfl rfl ⟨rfl, rfl, rfl, rfl, rfl⟩ rfl rfl rfl rfl rfl named_ Tryd.func4 closed_ inst_ wrap_
    (fun os started H enc _ => lifted os started H enc)
theorem card : Rows.FnExactFieldOfCardSaid :=
  Claim7.holds_tied_plain_at .later [] [.data, .pinned] true (true, "a97576e0b56365ea0bdacdac97cfea5fd0ecb66bc38648dfe16dd45acbe255d1") true over (fun _ h => by cases h) (by kernel_rfl) (fun _ h => by cases h) fnExactFieldOf_row_tie rfl ⟨rfl, rfl⟩ (by kernel_rfl) rfl
    (fun f fn hf hfn => by
      obtain rfl : f = 4 := Option.some.inj (named_.symm.trans hf) |>.symm
      obtain rfl : fn = Tryd.f4 := (Option.some.inj (Tryd.func4.symm.trans hfn)).symm
      exact ⟨by kernel_rfl, fun j t ht => by
        rw [Tryd.params4] at ht
        have hm : t ∈ [9] := by simpa using Array.mem_of_getElem? ht
        have hall : ([9].all fun u => !Tryd.prog.wantsStandIn u) = true := by kernel_rfl
        exact (show Tryd.prog.wantsStandIn t = false by simpa using List.all_eq_true.1 hall t hm)⟩)
    (by kernel_rfl)
#print axioms card
end Go.Proofs.YtlfnpnkpjdmonaaDoor.lawFieldOf
namespace Go.Proofs.YtlfnpnkpjdmonaaDoor
/-- The card, under a short name, for the claim. -/
theorem fnExactFieldOf_holds : Rows.FnExactFieldOfCardSaid := lawFieldOf.card
end Go.Proofs.YtlfnpnkpjdmonaaDoor
