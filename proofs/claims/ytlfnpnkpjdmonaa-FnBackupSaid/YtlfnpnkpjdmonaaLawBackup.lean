/- At any bytes a chain of backups is drawn; the one that is chosen of it is read back from its bytes, which are the reference's; with a bit of them turned, or cut, they are no backup. There are no conditions of ours. -/
import Derived.Test.YtlfnpnkpjdmonaaFacts
import Derived.Test.YtlfnpnkpjdmonaaBkLaw
import Derived.Test.YtlfnpnkpjdmonaaOpen
import Derived.ProofKit
import Derived.OpenShut
import Derived.ShutString
import Derived.ChangeOld
import Derived.Carry
import Derived.SizedLaws
set_option linter.unusedVariables false
set_option linter.unusedSimpArgs false
namespace Go.Proofs.Ytlfnpnkpjdmonaa.lawBackup
open Go.ChangeShapes Go.WideShapes Go.ChangeAt Go.RowKit Go.Joins
open Go.ChangeMaps (open_string shut_string)

set_option maxRecDepth 100000 in
theorem lifted (os : Os) (started : os.Started) (H : Type) (enc : TypeId × Value → H) :
    ReturnsInHanded {} Try.checked os 12 .any (Rows.fnBackupSpec.pre6 enc Try.prog Try.f12 Rows.fnBackupRow.domain false) (Rows.fnBackupSpec.post enc Try.prog Try.f12 false true false false) := by
  refine returnsInHanded_of_change_sized (C := Try.checked) Facts.own started (by kernel_rfl) Try.func12
    (ChangeSpec.witness6 (enc := enc) (C := Try.checked) false ⟨#[], #[.slice none 0 0, .slice none 0 0], []⟩ 8 (by kernel_rfl) (by kernel_rfl) (by kernel_rfl) (by kernel_rfl)) ?_
  intro W base args ds gs before hval0 hW hcnd hsz0 _
  have hsz : (DataW.weightsEach Try.prog (Try.f12.params.toList ++ Rows.fnBackupSpec.plain.varTypes Try.prog) (ds ++ gs)).all (· ≤ reachBytes) = true := hsz0
  have hval : ∀ (j : Nat) t v, Try.f12.params[j]? = some t → args[j]? = some v → Value.okWide Try.prog W .any base t v := hval0
  have hW' := hW
  obtain ⟨p, q, hA0, hV, rfl, hfz, hnd⟩ := hW
  have hA : DataW.TrodAll enc Try.prog W 0 (fun _ => true) true Try.f12.params.toList args.toList ds p := hA0
  rw [Try.params12] at hA hval hsz
  obtain ⟨rfl, rfl⟩ := trodVars_none hV
  have hltp : ∀ x ∈ p, x.block < W.heap.size := fun x hx => by simpa using hW'.lt x (by simp [hx])
  clear hA0 hval0 hsz0
  obtain ⟨v0, v1, d0, d1, p0, p1, rfl, rfl, rfl, h0, h1⟩ := trodAll_two hA
  obtain ⟨A, c, xs, rfl, hx, hm⟩ := open_bytes (hval 0 39 v0 rfl rfl) h0
  obtain ⟨B, d, ys, rfl, hy, hm'⟩ := open_bytes (hval 1 39 v1 rfl rfl) h1
  refine (lawBackup_any A B c d xs ys W hx hy hm hm').mono fun e W' ⟨he, bel⟩ => ?_
  subst he
  exact ⟨_, rfl, _, _, _, [], _, [], hW', trodAll_mk1 (shut_bool Try.underlying4 _), trodAll_mk2 (Below.trod Facts.laidOut (by kernel_rfl) (of_decide_eq_true (by kernel_rfl)) h0 bel (fun x hx => hltp x (List.mem_append_left _ hx))) (Below.trod Facts.laidOut (by kernel_rfl) (of_decide_eq_true (by kernel_rfl)) h1 bel (fun x hx => hltp x (List.mem_append_right _ hx))), rfl, bel.frame _, fun h => by cases h⟩
theorem named_ : Try.pinned.checked.prog.funcNamed Rows.fnBackupRow.func = some 12 := by kernel_rfl
set_option maxHeartbeats 8000000 in
theorem closed_ : joinedFacts Try.pinned.checked.prog 12 Try.f12 Rows.fnBackupSpec Rows.fnBackupRow = true := by
  unfold joinedFacts
  with_reducible repeat' (refine Facts.and_t ?_ ?_)
  all_goals first
    | with_reducible exact Facts.laidOut
    | with_reducible exact Facts.mapsRowed
    | with_reducible exact Facts.stopsHeard
    | with_reducible exact Facts.mayEnter
    | (rw [Facts.plainKeys]; as_aux_lemma => kernel_rfl)
    | (rw [Facts.lifts]; as_aux_lemma => kernel_rfl)
    | (rw [Facts.make_]; as_aux_lemma => kernel_rfl)
    | as_aux_lemma => kernel_rfl
theorem inst_ : Try.f12.isInstance Try.pinned.checked.prog Rows.fnBackupRow.origin Rows.fnBackupRow.targs := of_decide_eq_true (by kernel_rfl)
theorem wrap_ : Try.f12.isWrapper Try.pinned.checked.prog Rows.fnBackupRow.wrapper Rows.fnBackupRow.mainSum := by unfold Func.isWrapper; first | (rw [if_pos (by decide +kernel)]; kernel_rfl) | (rw [if_neg (by decide +kernel)]; exact ⟨rfl, rfl⟩)
theorem over : Rows.fnBackupRow.holds Try.pinned (OpenSpec.ofChange Rows.fnBackupSpec) :=
  OpenClaim.holds_of_wide 12 Try.f12 rfl rfl rfl rfl rfl rfl rfl ⟨rfl, rfl, rfl, rfl, rfl⟩ rfl rfl rfl rfl rfl named_ Try.func12 closed_ inst_ wrap_
    (fun os started H enc _ => lifted os started H enc)
theorem proved : Rows.FnBackupSaid := over
#print axioms proved
end Go.Proofs.Ytlfnpnkpjdmonaa.lawBackup
namespace Go.Proofs.Ytlfnpnkpjdmonaa
/-- The row, under a short name, for the claim. -/
theorem fnBackup_holds : Rows.FnBackupSaid := lawBackup.proved
end Go.Proofs.Ytlfnpnkpjdmonaa
