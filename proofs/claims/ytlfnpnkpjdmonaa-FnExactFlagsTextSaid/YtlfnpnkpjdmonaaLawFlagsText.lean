/- For every number, the program's FlagsText tells the text and the code that the reference tells; there are no conditions. -/
import Derived.Test.YtlfnpnkpjdmonaaFacts
import Derived.Test.YtlfnpnkpjdmonaaFlags
import Derived.ProofKit
import Derived.OpenShut
import Derived.ShutString
import Derived.ChangeOld
import Derived.Carry
import Derived.SizedLaws
set_option linter.unusedVariables false
set_option linter.unusedSimpArgs false
namespace Go.Proofs.Ytlfnpnkpjdmonaa.lawFlagsText
open Go.ChangeShapes Go.WideShapes Go.ChangeAt Go.RowKit Go.Joins
open Go.ChangeMaps (open_string shut_string)

def ftM (f : Int) : ByteArray × Int := if withinB f 0 3 = true then (flagsT f, 0) else (⟨#[]⟩, 4)
set_option maxRecDepth 100000 in
theorem spec_any (f : Int) (w : World) : Calls Try.prog 28 #[.int .i64 f] w fun e w' => e = .returned (.tuple #[.string (ftM f).1, .int .i64 (ftM f).2]) ∧ Below w.heap.size w w' := by
  cases hw : withinB f 0 3 with
  | true =>
    have e : ftM f = (flagsT f, 0) := by rw [ftM, if_pos hw]
    rw [e]
    have hb : 0 ≤ f ∧ f ≤ 3 := by simpa [withinB] using hw
    clear e
    go_enter Try.func28, Try.ntmps28
    go_wp2_with (first | (go_at_call 104; refine (in_any _ _ _ _).mono ?_; rintro e w' ⟨rfl, rfl⟩) | (go_at_call 105; refine (l10Flags_any _ _ hb.1 hb.2).mono ?_; rintro e w1 ⟨rfl, hb1⟩))
    go_ret2
    exact ⟨rfl, hb1⟩
  | false =>
    have e : ftM f = (⟨#[]⟩, 4) := by rw [ftM, if_neg (by rw [hw]; simp)]
    rw [e]
    clear e
    go_enter Try.func28, Try.ntmps28
    go_wp2_with (first | (go_at_call 104; refine (in_any _ _ _ _).mono ?_; rintro e w' ⟨rfl, rfl⟩))
    go_ret2
    exact ⟨rfl, Below.refl _ _⟩
set_option maxRecDepth 100000 in
theorem impl_any (f : Int) (w : World) : Calls Try.prog 29 #[.int .i64 f] w fun e w' => e = .returned (.tuple #[.string (ftM f).1, .int .i64 (ftM f).2]) ∧ Below w.heap.size w w' := by
  cases hw : withinB f 0 3 with
  | true =>
    have e : ftM f = (flagsT f, 0) := by rw [ftM, if_pos hw]
    rw [e]
    have hb : 0 ≤ f ∧ f ≤ 3 := by simpa [withinB] using hw
    clear e
    go_enter Try.func29, Try.ntmps29
    go_wp2_with (first | (go_at_call 106; refine (within_any _ _ _ _).mono ?_; rintro e w' ⟨rfl, rfl⟩) | (go_at_call 107; refine (flagsText_any _ _ hb.1 hb.2).mono ?_; rintro e w1 ⟨rfl, hb1⟩))
    go_ret2
    exact ⟨rfl, hb1⟩
  | false =>
    have e : ftM f = (⟨#[]⟩, 4) := by rw [ftM, if_neg (by rw [hw]; simp)]
    rw [e]
    clear e
    go_enter Try.func29, Try.ntmps29
    go_wp2_with (first | (go_at_call 106; refine (within_any _ _ _ _).mono ?_; rintro e w' ⟨rfl, rfl⟩))
    go_ret2
    exact ⟨rfl, Below.refl _ _⟩
set_option maxRecDepth 100000 in
theorem law_any (f : Int) (w : World) : Calls Try.prog 5 #[.int .i64 f] w fun e w' => e = .returned (.bool true) ∧ Below w.heap.size w w' := by
  go_enter Try.func5, Try.ntmps5
  go_wp2_with fail
  refine (spec_any _ _).mono ?_
  rintro e w1 ⟨rfl, hb1⟩
  go_wp2_with fail
  refine (impl_any _ _).mono ?_
  rintro e w2 ⟨rfl, hb2⟩
  go_wp2
  go_ret
  exact ⟨rfl, below_after hb1 hb2⟩

set_option maxRecDepth 100000 in
theorem lifted (os : Os) (started : os.Started) (H : Type) (enc : TypeId × Value → H) :
    ReturnsInHanded {} Try.checked os 5 .any (Rows.fnExactFlagsTextSpec.pre6 enc Try.prog Try.f5 Rows.fnExactFlagsTextRow.domain false) (Rows.fnExactFlagsTextSpec.post enc Try.prog Try.f5 false true false false) := by
  refine returnsInHanded_of_change_sized (C := Try.checked) Facts.own started (by kernel_rfl) Try.func5
    (ChangeSpec.witness6 (enc := enc) (C := Try.checked) false ⟨#[], #[.int .i64 0], []⟩ 8 (by kernel_rfl) (by kernel_rfl) (by kernel_rfl) (by kernel_rfl)) ?_
  intro W base args ds gs before hval0 hW hcnd hsz0 _
  have hsz : (DataW.weightsEach Try.prog (Try.f5.params.toList ++ Rows.fnExactFlagsTextSpec.plain.varTypes Try.prog) (ds ++ gs)).all (· ≤ reachBytes) = true := hsz0
  have hval : ∀ (j : Nat) t v, Try.f5.params[j]? = some t → args[j]? = some v → Value.okWide Try.prog W .any base t v := hval0
  have hW' := hW
  obtain ⟨p, q, hA0, hV, rfl, hfz, hnd⟩ := hW
  have hA : DataW.TrodAll enc Try.prog W 0 (fun _ => true) true Try.f5.params.toList args.toList ds p := hA0
  rw [Try.params5] at hA hval hsz
  obtain ⟨rfl, rfl⟩ := trodVars_none hV
  have hltp : ∀ x ∈ p, x.block < W.heap.size := fun x hx => by simpa using hW'.lt x (by simp [hx])
  clear hA0 hval0 hsz0
  obtain ⟨v0, d0, rfl, rfl, h0⟩ := trodAll_one hA
  have h0k := h0
  obtain ⟨x, rfl, _, _, wx⟩ := open_int Try.underlying3 (hval 0 3 v0 rfl rfl) h0
  refine (law_any x W).mono fun e W' ⟨he, bel⟩ => ?_
  subst he
  exact ⟨_, rfl, _, _, _, [], _, [], hW', trodAll_mk1 (shut_bool Try.underlying4 _), trodAll_mk1 (Below.trod Facts.laidOut (by kernel_rfl) (of_decide_eq_true (by kernel_rfl)) h0k bel hltp), rfl, bel.frame _, fun h => by cases h⟩
theorem named_ : Try.pinned.checked.prog.funcNamed Rows.fnExactFlagsTextRow.func = some 5 := by kernel_rfl
set_option maxHeartbeats 8000000 in
theorem closed_ : joinedFacts Try.pinned.checked.prog 5 Try.f5 Rows.fnExactFlagsTextSpec Rows.fnExactFlagsTextRow = true := by
  unfold joinedFacts
  with_reducible repeat' (refine Facts.and_t ?_ ?_)
  all_goals first
    | with_reducible exact Facts.laidOut
    | with_reducible exact Facts.mapsRowed
    | with_reducible exact Facts.stopsHeard
    | with_reducible exact Facts.mayEnter
    | (rw [Facts.plainKeys]; as_aux_lemma => kernel_rfl)
    | (rw [Facts.lifts]; as_aux_lemma => kernel_rfl)
    | (rw [Facts.make_]; as_aux_lemma => kernel_rfl)
    | as_aux_lemma => kernel_rfl
theorem inst_ : Try.f5.isInstance Try.pinned.checked.prog Rows.fnExactFlagsTextRow.origin Rows.fnExactFlagsTextRow.targs := of_decide_eq_true (by kernel_rfl)
theorem wrap_ : Try.f5.isWrapper Try.pinned.checked.prog Rows.fnExactFlagsTextRow.wrapper Rows.fnExactFlagsTextRow.mainSum := by unfold Func.isWrapper; first | (rw [if_pos (by decide +kernel)]; kernel_rfl) | (rw [if_neg (by decide +kernel)]; exact ⟨rfl, rfl⟩)
theorem over : Rows.fnExactFlagsTextRow.holds Try.pinned (OpenSpec.ofChange Rows.fnExactFlagsTextSpec) :=
  OpenClaim.holds_of_wide 5 Try.f5 rfl rfl rfl rfl rfl rfl rfl ⟨rfl, rfl, rfl, rfl, rfl⟩ rfl rfl rfl rfl rfl named_ Try.func5 closed_ inst_ wrap_
    (fun os started H enc _ => lifted os started H enc)
theorem proved : Rows.FnExactFlagsTextSaid := over
#print axioms proved
end Go.Proofs.Ytlfnpnkpjdmonaa.lawFlagsText
namespace Go.Proofs.Ytlfnpnkpjdmonaa
/-- The row, under a short name, for the claim. -/
theorem fnExactFlagsText_holds : Rows.FnExactFlagsTextSaid := lawFlagsText.proved
end Go.Proofs.Ytlfnpnkpjdmonaa
