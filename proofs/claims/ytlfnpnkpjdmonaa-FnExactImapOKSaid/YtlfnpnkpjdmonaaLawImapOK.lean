/- For every session, the program's ImapOK answers as the reference's does; there are no conditions. -/
import Derived.Test.YtlfnpnkpjdmonaaFacts
import Derived.Test.YtlfnpnkpjdmonaaImap0
import Derived.ProofKit
import Derived.OpenShut
import Derived.ShutString
import Derived.ChangeOld
import Derived.Carry
import Derived.SizedLaws
import Derived.Lib.SmallJoins
namespace Go.Proofs.Ytlfnpnkpjdmonaa.lawImapOK
open Go.ChangeShapes Go.WideShapes Go.ChangeAt Go.RowKit Go.Joins
open Go.ChangeMaps (open_string shut_string)

set_option maxRecDepth 100000 in
theorem law_any (u f : ByteArray) (o : Bool) (w : World) (hu : u.size ≤ maxLen) (hf : f.size ≤ maxLen) :
    Calls Try.prog 3 #[.agg #[.string u, .string f, .bool o]] w fun e w' => e = .returned (.bool true) ∧ Below w.heap.size w w' := by
  go_enter Try.func3, Try.ntmps3
  go_wp2_with fail
  refine (szImap_any _ _ _ _ _).mono ?_
  rintro e w1 ⟨n, rfl, hb1⟩
  obtain ⟨hc1, hf1⟩ := bcell hb1
  have hz1 : w.heap.size < w1.heap.size := by have := hb1.size; simp at this; omega
  have hB1 : Below w.heap.size w w1 := ((Below.refl _ _).alloc (Nat.le_refl _) _).trans (hb1.mono (by first | (simp; done) | (simp; omega) | omega))
  go_wp2_with (first
    | (go_at_call 21; refine (toImap_any _ _ _ _).mono ?_; rintro e w2 ⟨rfl, hb2⟩; obtain ⟨hc2, hf2⟩ := bcell hb2; have hz2 : w.heap.size < w2.heap.size := Nat.lt_of_lt_of_le (by assumption) hb2.size; have hB2 : Below w.heap.size w w2 := below_after (by assumption) hb2)
    | (go_at_call 20; refine (specImapOK_any _ _ _ _ hu hf).mono ?_; rintro e w3 ⟨rfl, hb3⟩; obtain ⟨hc3, hf3⟩ := bcell hb3; have hz3 : w.heap.size < w3.heap.size := Nat.lt_of_lt_of_le (by assumption) hb3.size; have hB3 : Below w.heap.size w w3 := below_after (by assumption) hb3)
    | (go_at_call 22; refine (implImapOK_any _ _ _ _ hu hf).mono ?_; rintro e w4 ⟨rfl, hb4⟩; have hB4 : Below w.heap.size w w4 := below_after (by assumption) hb4))
  all_goals
    go_ret
    exact ⟨rfl, by assumption⟩

theorem cellsP : Try.prog.cellsOf 23 = 3 := by kernel_rfl
set_option maxRecDepth 100000 in
theorem lifted (os : Os) (started : os.Started) (H : Type) (enc : TypeId × Value → H) :
    ReturnsInHanded {} Try.checked os 3 .any (Rows.fnExactImapOKSpec.pre6 enc Try.prog Try.f3 Rows.fnExactImapOKRow.domain false) (Rows.fnExactImapOKSpec.post enc Try.prog Try.f3 false true false false) := by
  refine returnsInHanded_of_change_sized (C := Try.checked) Facts.own started (by kernel_rfl) Try.func3
    (ChangeSpec.witness6 (enc := enc) (C := Try.checked) false ⟨#[], #[.agg #[.string ⟨#[]⟩, .string ⟨#[]⟩, .bool false]], []⟩ 8 (by kernel_rfl) (by kernel_rfl) (by kernel_rfl) (by kernel_rfl)) ?_
  intro W base args ds gs before hval0 hW hcnd hsz0 _
  have hsz : (DataW.weightsEach Try.prog (Try.f3.params.toList ++ Rows.fnExactImapOKSpec.plain.varTypes Try.prog) (ds ++ gs)).all (· ≤ reachBytes) = true := hsz0
  have hval : ∀ (j : Nat) t v, Try.f3.params[j]? = some t → args[j]? = some v → Value.okWide Try.prog W .any base t v := hval0
  have hW' := hW
  obtain ⟨p, q, hA0, hV, rfl, hfz, hnd⟩ := hW
  have hA : DataW.TrodAll enc Try.prog W 0 (fun _ => true) true Try.f3.params.toList args.toList ds p := hA0
  rw [Try.params3] at hA hval hsz
  obtain ⟨rfl, rfl⟩ := trodVars_none hV
  have hltp : ∀ x ∈ p, x.block < W.heap.size := fun x hx => by simpa using hW'.lt x (by simp [hx])
  clear hA0 hval0 hsz0
  obtain ⟨v0, d0, rfl, rfl, h0⟩ := trodAll_one hA
  have h0k := h0
  obtain ⟨c0, c1, c2, y0, y1, y2, m, hv, hd, hp, hy0, hy1, hy2⟩ := open_agg3 Try.underlying23 (by kernel_rfl) cellsP (hval 0 23 v0 rfl rfl) h0
  obtain ⟨u, e0, _, hu⟩ := DataW.trod_string Try.underlying9 hy0
  obtain ⟨f, e1, _, hf⟩ := DataW.trod_string Try.underlying9 hy1
  obtain ⟨o, e2, _⟩ := DataW.trod_bool Try.underlying4 hy2
  simp only [List.cons.injEq, and_true] at e0 e1 e2
  subst e0 e1 e2 hv
  refine (law_any u f o W hu hf).mono fun e W' ⟨he, bel⟩ => ?_
  subst he
  exact ⟨_, rfl, _, _, _, [], _, [], hW', trodAll_mk1 (shut_bool Try.underlying4 _), trodAll_mk1 (Below.trod Facts.laidOut (by kernel_rfl) (of_decide_eq_true (by kernel_rfl)) h0k bel hltp), rfl, bel.frame _, fun h => by cases h⟩
theorem named_ : Try.pinned.checked.prog.funcNamed Rows.fnExactImapOKRow.func = some 3 := by kernel_rfl
set_option maxHeartbeats 8000000 in
theorem closed_ : joinedFacts Try.pinned.checked.prog 3 Try.f3 Rows.fnExactImapOKSpec Rows.fnExactImapOKRow = true := by
  unfold joinedFacts
  with_reducible repeat' (refine Facts.and_t ?_ ?_)
  all_goals first
    | with_reducible exact Facts.laidOut
    | with_reducible exact Facts.mapsRowed
    | with_reducible exact Facts.stopsHeard
    | with_reducible exact Facts.mayEnter
    | (rw [Facts.plainKeys]; as_aux_lemma => kernel_rfl)
    | (rw [Facts.lifts]; as_aux_lemma => kernel_rfl)
    | (rw [Facts.make_]; as_aux_lemma => kernel_rfl)
    | as_aux_lemma => kernel_rfl
theorem inst_ : Try.f3.isInstance Try.pinned.checked.prog Rows.fnExactImapOKRow.origin Rows.fnExactImapOKRow.targs := of_decide_eq_true (by kernel_rfl)
theorem wrap_ : Try.f3.isWrapper Try.pinned.checked.prog Rows.fnExactImapOKRow.wrapper Rows.fnExactImapOKRow.mainSum := by unfold Func.isWrapper; first | (rw [if_pos (by decide +kernel)]; kernel_rfl) | (rw [if_neg (by decide +kernel)]; exact ⟨rfl, rfl⟩)
theorem over : Rows.fnExactImapOKRow.holds Try.pinned (OpenSpec.ofChange Rows.fnExactImapOKSpec) :=
  OpenClaim.holds_of_wide 3 Try.f3 rfl rfl rfl rfl rfl rfl rfl ⟨rfl, rfl, rfl, rfl, rfl⟩ rfl rfl rfl rfl rfl named_ Try.func3 closed_ inst_ wrap_
    (fun os started H enc _ => lifted os started H enc)
theorem proved : Rows.FnExactImapOKSaid := over
#print axioms proved
end Go.Proofs.Ytlfnpnkpjdmonaa.lawImapOK
namespace Go.Proofs.Ytlfnpnkpjdmonaa
/-- The row, under a short name, for the claim. -/
theorem fnExactImapOK_holds : Rows.FnExactImapOKSaid := lawImapOK.proved
end Go.Proofs.Ytlfnpnkpjdmonaa
