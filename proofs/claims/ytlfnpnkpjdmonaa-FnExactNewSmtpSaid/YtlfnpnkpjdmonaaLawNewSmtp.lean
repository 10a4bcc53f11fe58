/- A new session that takes mail, as the program makes it, is the one that the reference makes, its lists are new memory at each call; there are no conditions. -/
import Derived.Test.YtlfnpnkpjdmonaaFacts
import Derived.Test.YtlfnpnkpjdmonaaSmtp0
import Derived.ProofKit
import Derived.OpenShut
import Derived.ShutString
import Derived.ChangeOld
import Derived.Carry
import Derived.SizedLaws
set_option linter.unusedVariables false
set_option linter.unusedSimpArgs false
namespace Go.Proofs.Ytlfnpnkpjdmonaa.lawNewSmtp
open Go.ChangeShapes Go.WideShapes Go.ChangeAt Go.RowKit Go.Joins
open Go.ChangeMaps (open_string shut_string)

set_option maxRecDepth 100000 in
theorem law_any (w : World) :
    Calls Try.prog 4 #[] w fun e w' => e = .returned (.bool true) ∧ Below w.heap.size w w' := by
  go_enter Try.func4, Try.ntmps4
  go_wp2_with fail
  refine (specNewSmtp_any _).mono ?_
  rintro e w1 ⟨A, c, B, d, rfl, hoA, hoB, hneA, hb1⟩
  clear hoA hoB hneA
  obtain ⟨hc1, hf1⟩ := bcell hb1; have hB1 : Below w.heap.size w w1 := Below.trans (by repeat (first | exact Below.refl _ _ | assumption | refine Below.drew ?_ | refine below_drewN ?_ _ | refine Below.setCell ?_ (by first | exact Nat.le_refl _ | exact Below.size (by assumption) | (simp; done) | (simp; omega) | omega) _ | refine Below.alloc ?_ (by first | exact Nat.le_refl _ | exact Below.size (by assumption) | (simp; done) | (simp; omega) | omega) _)) (hb1.mono (by first | exact Nat.le_refl _ | exact Below.size (by assumption) | (simp; done) | (simp; omega) | omega)); have hz1 := hB1.size; have hy1 := hb1.size; (try simp only [World.size_alloc, World.size_setCell, World.size_drew] at hy1)
  go_wp2_with fail
  refine (implNewSmtp_any _).mono ?_
  rintro e w2 ⟨A2, c2, B2, d2, rfl, hoA2, hoB2, hne2, hb2⟩
  obtain ⟨hc2, hf2⟩ := bcell hb2; have hB2 : Below w.heap.size w w2 := Below.trans (by repeat (first | exact Below.refl _ _ | assumption | refine Below.drew ?_ | refine below_drewN ?_ _ | refine Below.setCell ?_ (by first | exact Nat.le_refl _ | exact Below.size (by assumption) | (simp; done) | (simp; omega) | omega) _ | refine Below.alloc ?_ (by first | exact Nat.le_refl _ | exact Below.size (by assumption) | (simp; done) | (simp; omega) | omega) _)) (hb2.mono (by first | exact Nat.le_refl _ | exact Below.size (by assumption) | (simp; done) | (simp; omega) | omega)); have hz2 := hB2.size; have hy2 := hb2.size; (try simp only [World.size_alloc, World.size_setCell, World.size_drew] at hy2)
  have HA := Lib.hid hoA2
  have HB := Lib.hid hoB2
  have HN := Lib.hid hne2
  clear hoA2 hoB2 hne2
  have hlt12 : w1.heap.size < w2.heap.size := by omega
  have hAlt : (Value.slice A2 0 c2).ownBlock ≠ some w2.heap.size := fun e => by have := (HA.out.lt _ e).2; omega
  have hBlt : (Value.slice B2 0 d2).ownBlock ≠ some w2.heap.size := fun e => by have := (HB.out.lt _ e).2; omega
  have hAl1 : (Value.slice A2 0 c2).ownBlock ≠ some w1.heap.size := fun e => by have := (HA.out.lt _ e).1; simp at this; omega
  have hBl1 : (Value.slice B2 0 d2).ownBlock ≠ some w1.heap.size := fun e => by have := (HB.out.lt _ e).1; simp at this; omega
  have hbA : ∀ k, (Value.slice A2 0 c2).ownBlock = some k → w.heap.size ≤ k := fun k e => by have := (HA.out.lt _ e).1; simp at this; omega
  have hbB : ∀ k, (Value.slice B2 0 d2).ownBlock = some k → w.heap.size ≤ k := fun k e => by have := (HB.out.lt _ e).1; simp at this; omega
  have HC := Lib.hid (And.intro (And.intro hAlt hBlt) (And.intro (And.intro hAl1 hBl1) (And.intro hbA hbB)))
  clear hAlt hBlt hAl1 hBl1 hbA hbB
  go_wp2_with fail
  refine (eqSmtp_eq false false true ⟨#[]⟩ [] [] _ _ _ _ _ _ _ _ _ (Rd.nil _ _ _) (Rd.nil _ _ _) (Rd.nil _ _ _) (Rd.nil _ _ _) (by simp) (by simp)).mono ?_
  rintro e w3 ⟨rfl, hb3⟩
  obtain ⟨hc3, hf3⟩ := bcell hb3; have hB3 : Below w.heap.size w w3 := Below.trans (by repeat (first | exact Below.refl _ _ | assumption | refine Below.drew ?_ | refine below_drewN ?_ _ | refine Below.setCell ?_ (by first | exact Nat.le_refl _ | exact Below.size (by assumption) | (simp; done) | (simp; omega) | omega) _ | refine Below.alloc ?_ (by first | exact Nat.le_refl _ | exact Below.size (by assumption) | (simp; done) | (simp; omega) | omega) _)) (hb3.mono (by first | exact Nat.le_refl _ | exact Below.size (by assumption) | (simp; done) | (simp; omega) | omega)); have hz3 := hB3.size; have hy3 := hb3.size; (try simp only [World.size_alloc, World.size_setCell, World.size_drew] at hy3)
  have HA3 := Lib.hid (own_below (own_below HA.out ((Below.refl _ _).alloc (Nat.le_refl _) _)) hb3)
  have HB3 := Lib.hid (own_below (own_below HB.out ((Below.refl _ _).alloc (Nat.le_refl _) _)) hb3)
  have hlt13 : w1.heap.size < w3.heap.size := by omega
  have hlt23 : w2.heap.size < w3.heap.size := by omega
  go_wp2_with fail
  refine (markSmtp_any _ _ _ _ _ _ _ _ _ _ _ _ _ _ _ HA3.out HB3.out HN.out (by simp) (by simp) (by simp) (by simp)).mono ?_
  rintro e w4 ⟨rfl, ho4, ho4', hw4⟩
  clear ho4 ho4'
  have hc4 : ∀ i, w4.cell? ⟨w2.heap.size, i, none⟩ = w3.cell? ⟨w2.heap.size, i, none⟩ := fun i => hw4.cell (a := ⟨w2.heap.size, i, none⟩) hlt23 (by simp; exact ⟨fun e => HC.out.1.1 e.symm, fun e => HC.out.1.2 e.symm⟩)
  have hd4 : ∀ i, w4.cell? ⟨w1.heap.size, i, none⟩ = w3.cell? ⟨w1.heap.size, i, none⟩ := fun i => hw4.cell (a := ⟨w1.heap.size, i, none⟩) hlt13 (by simp; exact ⟨fun e => HC.out.2.1.1 e.symm, fun e => HC.out.2.1.2 e.symm⟩)
  have hB4 : Below w.heap.size w w4 := hB3.trans (hw4.below hB3.size (by simp; exact fun k e => e.elim (fun e => HC.out.2.2.1 k e.symm) (fun e => HC.out.2.2.2 k e.symm)))
  have hz4 := hB4.size
  have hs4 := hw4.size
  have hlt14 : w1.heap.size < w4.heap.size := by omega
  have hlt24 : w2.heap.size < w4.heap.size := by omega
  have HW4 := Lib.hid hw4
  clear hw4
  go_wp2_with fail
  refine (heldSmtp_any _ _ _ _ 0 0 _ _ _ _ _ _ (marks_nil _ _ _ _) (marks_nil _ _ _ _) (by simp) (by simp) (by simp) (by simp)).mono ?_
  rintro e w5 ⟨rfl, hb5⟩
  obtain ⟨hc5, hf5⟩ := bcell hb5; have hB5 : Below w.heap.size w w5 := Below.trans (by repeat (first | exact Below.refl _ _ | assumption | refine Below.drew ?_ | refine below_drewN ?_ _ | refine Below.setCell ?_ (by first | exact Nat.le_refl _ | exact Below.size (by assumption) | (simp; done) | (simp; omega) | omega) _ | refine Below.alloc ?_ (by first | exact Nat.le_refl _ | exact Below.size (by assumption) | (simp; done) | (simp; omega) | omega) _)) (hb5.mono (by first | exact Nat.le_refl _ | exact Below.size (by assumption) | (simp; done) | (simp; omega) | omega)); have hz5 := hB5.size; have hy5 := hb5.size; (try simp only [World.size_alloc, World.size_setCell, World.size_drew] at hy5)
  have hlt15 : w1.heap.size < w5.heap.size := by omega
  have hlt25 : w2.heap.size < w5.heap.size := by omega
  go_wp2_with fail
  refine (implNewSmtp_any _).mono ?_
  rintro e w6 ⟨A6, c6, B6, d6, rfl, hoA6, hoB6, hne6, hb6⟩
  clear hoA6 hoB6 hne6
  obtain ⟨hc6, hf6⟩ := bcell hb6; have hB6 : Below w.heap.size w w6 := Below.trans (by repeat (first | exact Below.refl _ _ | assumption | refine Below.drew ?_ | refine below_drewN ?_ _ | refine Below.setCell ?_ (by first | exact Nat.le_refl _ | exact Below.size (by assumption) | (simp; done) | (simp; omega) | omega) _ | refine Below.alloc ?_ (by first | exact Nat.le_refl _ | exact Below.size (by assumption) | (simp; done) | (simp; omega) | omega) _)) (hb6.mono (by first | exact Nat.le_refl _ | exact Below.size (by assumption) | (simp; done) | (simp; omega) | omega)); have hz6 := hB6.size; have hy6 := hb6.size; (try simp only [World.size_alloc, World.size_setCell, World.size_drew] at hy6)
  have hlt16 : w1.heap.size < w6.heap.size := by omega
  have hlt26 : w2.heap.size < w6.heap.size := by omega
  go_wp2_with fail
  refine (eqSmtp_eq false false true ⟨#[]⟩ [] [] _ _ _ _ _ _ _ _ _ (Rd.nil _ _ _) (Rd.nil _ _ _) (Rd.nil _ _ _) (Rd.nil _ _ _) (by simp) (by simp)).mono ?_
  rintro e w7 ⟨rfl, hb7⟩
  obtain ⟨hc7, hf7⟩ := bcell hb7; have hB7 : Below w.heap.size w w7 := Below.trans (by repeat (first | exact Below.refl _ _ | assumption | refine Below.drew ?_ | refine below_drewN ?_ _ | refine Below.setCell ?_ (by first | exact Nat.le_refl _ | exact Below.size (by assumption) | (simp; done) | (simp; omega) | omega) _ | refine Below.alloc ?_ (by first | exact Nat.le_refl _ | exact Below.size (by assumption) | (simp; done) | (simp; omega) | omega) _)) (hb7.mono (by first | exact Nat.le_refl _ | exact Below.size (by assumption) | (simp; done) | (simp; omega) | omega)); have hz7 := hB7.size; have hy7 := hb7.size; (try simp only [World.size_alloc, World.size_setCell, World.size_drew] at hy7)
  have hlt27 : w2.heap.size < w7.heap.size := by omega
  go_wp2_with fail
  refine (heldSmtp_any _ _ _ _ 0 0 _ _ _ _ _ _ (marks_nil _ _ _ _) (marks_nil _ _ _ _) (by simp) (by simp) (by simp) (by simp)).mono ?_
  rintro e w8 ⟨rfl, hb8⟩
  obtain ⟨hc8, hf8⟩ := bcell hb8; have hB8 : Below w.heap.size w w8 := Below.trans (by repeat (first | exact Below.refl _ _ | assumption | refine Below.drew ?_ | refine below_drewN ?_ _ | refine Below.setCell ?_ (by first | exact Nat.le_refl _ | exact Below.size (by assumption) | (simp; done) | (simp; omega) | omega) _ | refine Below.alloc ?_ (by first | exact Nat.le_refl _ | exact Below.size (by assumption) | (simp; done) | (simp; omega) | omega) _)) (hb8.mono (by first | exact Nat.le_refl _ | exact Below.size (by assumption) | (simp; done) | (simp; omega) | omega)); have hz8 := hB8.size; have hy8 := hb8.size; (try simp only [World.size_alloc, World.size_setCell, World.size_drew] at hy8)
  go_wp2_with fail
  go_ret
  exact ⟨rfl, hB8⟩

set_option maxRecDepth 100000 in
theorem lifted (os : Os) (started : os.Started) (H : Type) (enc : TypeId × Value → H) :
    ReturnsInHanded {} Try.checked os 4 .any (Rows.fnExactNewSmtpSpec.pre6 enc Try.prog Try.f4 Rows.fnExactNewSmtpRow.domain false) (Rows.fnExactNewSmtpSpec.post enc Try.prog Try.f4 false true false false) := by
  refine returnsInHanded_of_change_sized (C := Try.checked) Facts.own started (by kernel_rfl) Try.func4
    (ChangeSpec.witness6 (enc := enc) (C := Try.checked) false ⟨#[], #[], []⟩ 8 (by kernel_rfl) (by kernel_rfl) (by kernel_rfl) (by kernel_rfl)) ?_
  intro W base args ds gs before hval0 hW hcnd hsz0 _
  have hsz : (DataW.weightsEach Try.prog (Try.f4.params.toList ++ Rows.fnExactNewSmtpSpec.plain.varTypes Try.prog) (ds ++ gs)).all (· ≤ reachBytes) = true := hsz0
  have hval : ∀ (j : Nat) t v, Try.f4.params[j]? = some t → args[j]? = some v → Value.okWide Try.prog W .any base t v := hval0
  have hW' := hW
  obtain ⟨p, q, hA0, hV, rfl, hfz, hnd⟩ := hW
  have hA : DataW.TrodAll enc Try.prog W 0 (fun _ => true) true Try.f4.params.toList args.toList ds p := hA0
  rw [Try.params4] at hA hval hsz
  obtain ⟨rfl, rfl⟩ := trodVars_none hV
  have hltp : ∀ x ∈ p, x.block < W.heap.size := fun x hx => by simpa using hW'.lt x (by simp [hx])
  clear hA0 hval0 hsz0
  obtain ⟨rfl, rfl, rfl⟩ := trodAll_none hA
  refine (law_any W).mono fun e W' ⟨he, bel⟩ => ?_
  subst he
  exact ⟨_, rfl, _, _, _, [], _, [], hW', trodAll_mk1 (shut_bool Try.underlying4 _), trodAll_mk0, rfl, bel.frame _, fun h => by cases h⟩
theorem named_ : Try.pinned.checked.prog.funcNamed Rows.fnExactNewSmtpRow.func = some 4 := by kernel_rfl
set_option maxHeartbeats 8000000 in
theorem closed_ : joinedFacts Try.pinned.checked.prog 4 Try.f4 Rows.fnExactNewSmtpSpec Rows.fnExactNewSmtpRow = true := by
  unfold joinedFacts
  with_reducible repeat' (refine Facts.and_t ?_ ?_)
  all_goals first
    | with_reducible exact Facts.laidOut
    | with_reducible exact Facts.mapsRowed
    | with_reducible exact Facts.stopsHeard
    | with_reducible exact Facts.mayEnter
    | (rw [Facts.plainKeys]; as_aux_lemma => kernel_rfl)
    | (rw [Facts.lifts]; as_aux_lemma => kernel_rfl)
    | (rw [Facts.make_]; as_aux_lemma => kernel_rfl)
    | as_aux_lemma => kernel_rfl
theorem inst_ : Try.f4.isInstance Try.pinned.checked.prog Rows.fnExactNewSmtpRow.origin Rows.fnExactNewSmtpRow.targs := of_decide_eq_true (by kernel_rfl)
theorem wrap_ : Try.f4.isWrapper Try.pinned.checked.prog Rows.fnExactNewSmtpRow.wrapper Rows.fnExactNewSmtpRow.mainSum := by unfold Func.isWrapper; first | (rw [if_pos (by decide +kernel)]; kernel_rfl) | (rw [if_neg (by decide +kernel)]; exact ⟨rfl, rfl⟩)
theorem over : Rows.fnExactNewSmtpRow.holds Try.pinned (OpenSpec.ofChange Rows.fnExactNewSmtpSpec) :=
  OpenClaim.holds_of_wide 4 Try.f4 rfl rfl rfl rfl rfl rfl rfl ⟨rfl, rfl, rfl, rfl, rfl⟩ rfl rfl rfl rfl rfl named_ Try.func4 closed_ inst_ wrap_
    (fun os started H enc _ => lifted os started H enc)
theorem proved : Rows.FnExactNewSmtpSaid := over
#print axioms proved
end Go.Proofs.Ytlfnpnkpjdmonaa.lawNewSmtp
namespace Go.Proofs.Ytlfnpnkpjdmonaa
/-- The row, under a short name, for the claim. -/
theorem fnExactNewSmtp_holds : Rows.FnExactNewSmtpSaid := lawNewSmtp.proved
end Go.Proofs.Ytlfnpnkpjdmonaa
