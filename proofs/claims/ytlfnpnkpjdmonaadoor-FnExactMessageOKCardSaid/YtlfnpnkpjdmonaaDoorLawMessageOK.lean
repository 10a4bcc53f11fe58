/- At any text, the program's MessageOK answers as the reference's. The card ties the two listed tables of the library to the program's text. There are no conditions of ours. -/
import Derived.Test.YtlfnpnkpjdmonaaDoorDCard
import Derived.Test.YtlfnpnkpjdmonaaDoorCards
import Derived.Test.YtlfnpnkpjdmonaaDoorMsg5
import Derived.ProofKit
import Derived.OpenShut
import Derived.ShutString
import Derived.ChangeOld
import Derived.Carry
import Derived.SizedLaws
set_option linter.unusedVariables false
set_option linter.unusedSimpArgs false
namespace Go.Proofs.YtlfnpnkpjdmonaaDoor.lawMessageOK
open Go.ChangeShapes Go.WideShapes Go.ChangeAt Go.RowKit Go.Joins
open Go.ChangeMaps (open_string shut_string)

theorem bs_eta (s : ByteArray) : s = bs s.data.toList := by cases s; rfl
theorem law_any (l : List UInt8) (w : World) (hm : ML w) (hl : (bs l).size ≤ maxLen) :
    Calls Tryd.prog 3 #[.string (bs l)] w fun e w' => e = .returned (.bool true) ∧ Below w.heap.size w w' := by
  rw [bs_size] at hl
  unfold maxLen at hl
  have hs0 := bs_size l
  by_cases h1 : 1048576 < l.length
  · go_enter Tryd.func3, Tryd.ntmps3
    go_wp2
    go_ret
    exact ⟨rfl, Below.refl _ _⟩
  have HC1 := Lib.hid (specMessageOK_any l w (by omega))
  have HC2 : Hid (∀ W : World, Below w.heap.size w W → Calls Tryd.prog 10 #[.string (bs l)] W fun e w' => e = .returned (.bool (mokB l)) ∧ Below W.heap.size W w') := fun W hW => implMessageOK_any l W (hm.below hW) (by omega)
  generalize mokB l = r at HC1 HC2
  have hrr : (r != r) = false := by cases r <;> rfl
  clear hm
  go_enter Tryd.func3, Tryd.ntmps3
  go_wp2_with fail
  refine HC1.out.mono ?_
  rintro e w1 ⟨rfl, hb1⟩
  have HB1 := Lib.hid hb1
  clear hb1
  go_wp2_with fail
  refine (HC2.out _ HB1.out).mono ?_
  rintro e w2 ⟨rfl, hb2⟩
  have HB2 := Lib.hid (below_after HB1.out hb2)
  clear hb2
  go_wp2_with fail
  go_ret
  exact ⟨rfl, HB2.out⟩

set_option maxRecDepth 100000 in
theorem lifted (os : Os) (started : os.Started) (H : Type) (enc : TypeId × Value → H) :
    ReturnsInHanded {} Tryd.checked os 3 .any (fun w args => (Rows.fnExactMessageOKSpec.pre enc Tryd.prog Tryd.f3 Rows.fnExactMessageOKRow.domain false w args ∧ laidMetH Tryd.prog DCard.laid w) ∧ sizedMet enc Tryd.prog Tryd.f3 (OpenSpec.ofChange Rows.fnExactMessageOKSpec) false w args) (Rows.fnExactMessageOKSpec.post enc Tryd.prog Tryd.f3 false true false false) := by
  refine DCard.returns_and_shaped (C := Tryd.checked) (X := fun w _ => laidMetH Tryd.prog DCard.laid w) (fun _ _ _ hh h => h.of_heap hh) Facts.own started (by kernel_rfl) Tryd.func3
    (ChangeSpec.witness_shaped (enc := enc) (C := Tryd.checked) (os := os) (X := fun w _ => laidMetH Tryd.prog DCard.laid w) false (World.laidAll Tryd.prog os DCard.laid) #[.string ⟨#[]⟩] 8 (World.laidAll_os _ _ _) (DCard.shaped os _) (by kernel_rfl) (by kernel_rfl) (by kernel_rfl) (DCard.met os _)) ?_
  intro W base args ds gs before hval0 hW hcnd hsz0 hL hsh _
  have hsz : (DataW.weightsEach Tryd.prog (Tryd.f3.params.toList ++ Rows.fnExactMessageOKSpec.plain.varTypes Tryd.prog) (ds ++ gs)).all (· ≤ reachBytes) = true := hsz0
  have hval : ∀ (j : Nat) t v, Tryd.f3.params[j]? = some t → args[j]? = some v → Value.okWide Tryd.prog W .any base t v := hval0
  have hW' := hW
  obtain ⟨p, q, hA0, hV, rfl, hfz, hnd⟩ := hW
  have hA : DataW.TrodAll enc Tryd.prog W 0 (fun _ => true) true Tryd.f3.params.toList args.toList ds p := hA0
  rw [Tryd.params3] at hA hval hsz
  obtain ⟨rfl, rfl⟩ := trodVars_none hV
  have hltp : ∀ x ∈ p, x.block < W.heap.size := fun x hx => by simpa using hW'.lt x (by simp [hx])
  clear hA0 hval0 hsz0
  obtain ⟨v0, d0, rfl, rfl, h0⟩ := trodAll_one hA
  obtain ⟨s, rfl, rfl, rfl, hs⟩ := open_string Tryd.underlying9 (hval 0 9 v0 rfl rfl) h0
  obtain ⟨l, rfl⟩ : ∃ l, s = bs l := ⟨_, bs_eta s⟩
  have hml : ML W := Go.Proofs.cell_of_shapedOpen_int (zero := #[.int .i64 0]) (t := 3) hsh (of_decide_eq_true (by kernel_rfl)) (by kernel_rfl) rfl (by kernel_rfl) (by kernel_rfl) Tryd.underlying3
  refine (law_any l W hml hs).mono fun e W' ⟨he, bel⟩ => ?_
  subst he
  exact ⟨_, rfl, _, _, _, [], _, [], hW', trodAll_mk1 (shut_bool Tryd.underlying4 _), trodAll_mk1 (Below.trod Facts.laidOut (by kernel_rfl) (of_decide_eq_true (by kernel_rfl)) h0 bel hltp), rfl, bel.frame _, fun h => by cases h⟩
theorem named_ : Tryd.pinned.checked.prog.funcNamed Rows.fnExactMessageOKRow.func = some 3 := by kernel_rfl
set_option maxHeartbeats 8000000 in
theorem closed_ : joinedFacts Tryd.pinned.checked.prog 3 Tryd.f3 Rows.fnExactMessageOKSpec Rows.fnExactMessageOKRow = true := by
  unfold joinedFacts
  with_reducible repeat' (refine Facts.and_t ?_ ?_)
  all_goals first
    | with_reducible exact Facts.laidOut
    | with_reducible exact Facts.mapsRowed
    | with_reducible exact Facts.stopsHeard
    | with_reducible exact Facts.mayEnter
    | (rw [Facts.plainKeys]; as_aux_lemma => kernel_rfl)
    | (rw [Facts.lifts]; as_aux_lemma => kernel_rfl)
    | as_aux_lemma => kernel_rfl
theorem inst_ : Tryd.f3.isInstance Tryd.pinned.checked.prog Rows.fnExactMessageOKRow.origin Rows.fnExactMessageOKRow.targs := of_decide_eq_true (by kernel_rfl)
theorem wrap_ : Tryd.f3.isWrapper Tryd.pinned.checked.prog Rows.fnExactMessageOKRow.wrapper Rows.fnExactMessageOKRow.mainSum := by unfold Func.isWrapper; first | (rw [if_pos (by decide +kernel)]; kernel_rfl) | (rw [if_neg (by decide +kernel)]; exact ⟨rfl, rfl⟩)
theorem over : Rows.fnExactMessageOKRow.holds Tryd.pinned (OpenSpec.ofChange Rows.fnExactMessageOKSpec) :=
  OpenClaim.holds_of_wide 3 Tryd.f3 rfl rfl rfl rfl rfl rfl rfl ⟨rfl, rfl, rfl, rfl, rfl⟩ rfl rfl rfl rfl rfl named_ Tryd.func3 closed_ inst_ wrap_
    (fun os started H enc _ => lifted os started H enc)
theorem card : Rows.FnExactMessageOKCardSaid :=
  Claim7.holds_tied_plain_at .later [] [.data, .pinned] true (true, "a97576e0b56365ea0bdacdac97cfea5fd0ecb66bc38648dfe16dd45acbe255d1") true over (fun _ h => by cases h) (by kernel_rfl) (fun _ h => by cases h) fnExactMessageOK_row_tie rfl ⟨rfl, rfl⟩ (by kernel_rfl) rfl
    (fun f fn hf hfn => by
      obtain rfl : f = 3 := Option.some.inj (named_.symm.trans hf) |>.symm
      obtain rfl : fn = Tryd.f3 := (Option.some.inj (Tryd.func3.symm.trans hfn)).symm
      exact ⟨by kernel_rfl, fun j t ht => by
        rw [Tryd.params3] at ht
        have hm : t ∈ [9] := by simpa using Array.mem_of_getElem? ht
        have hall : ([9].all fun u => !Tryd.prog.wantsStandIn u) = true := by kernel_rfl
        exact (show Tryd.prog.wantsStandIn t = false by simpa using List.all_eq_true.1 hall t hm)⟩)
    (by kernel_rfl)
#print axioms card
end Go.Proofs.YtlfnpnkpjdmonaaDoor.lawMessageOK
namespace Go.Proofs.YtlfnpnkpjdmonaaDoor
/-- The card, under a short name, for the claim. -/
theorem fnExactMessageOK_holds : Rows.FnExactMessageOKCardSaid := lawMessageOK.card
end Go.Proofs.YtlfnpnkpjdmonaaDoor
