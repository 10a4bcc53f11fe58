/- For every session, the program's SmtpOK answers as the reference's does, and leaves the session as it was; the law's own bound of sizes stands ahead. -/
import Derived.Test.YtlfnpnkpjdmonaaFacts
import Derived.Test.YtlfnpnkpjdmonaaSmtpTo
import Derived.ProofKit
import Derived.OpenShut
import Derived.ShutString
import Derived.ChangeOld
import Derived.Carry
import Derived.SizedLaws
set_option linter.unusedVariables false
set_option linter.unusedSimpArgs false
namespace Go.Proofs.Ytlfnpnkpjdmonaa.lawSmtpOK
open Go.ChangeShapes Go.WideShapes Go.ChangeAt Go.RowKit Go.Joins
open Go.ChangeMaps (open_string shut_string)

theorem cellsP : Try.prog.cellsOf 48 = 6 := by kernel_rfl
theorem cellsB : Try.prog.cellsOf 4 = 1 := by kernel_rfl
theorem cellsSs : Try.prog.cellsOf 29 = 1 := by kernel_rfl
set_option maxRecDepth 100000 in
open Go.Deep in
/-- The session that is the argument, opened. -/
theorem open_smtp {H : Type} {enc : TypeId × Value → H} {W : World} {r : Reach} {b0 : Nat} {v : Value} {dt : DataW H} {p : List MemPlace} (hv : Value.okWide Try.prog W r b0 48 v) (hT : DataW.Trod enc Try.prog W 0 (fun _ => true) true 48 v dt p) :
    ∃ (h d o : Bool) (f : ByteArray) (A B : Option Addr) (c b : Nat) (xs ys : List ByteArray), v = smtpV h d o f A xs.length c B ys.length b ∧ f.size ≤ maxLen ∧
      (Rd W W.heap.size A (xs.map Value.string) ∧ xs.length ≤ maxLen ∧ ∀ s ∈ xs, s.size ≤ maxLen) ∧ (Rd W W.heap.size B (ys.map Value.string) ∧ ys.length ≤ maxLen ∧ ∀ s ∈ ys, s.size ≤ maxLen) := by
  obtain ⟨cs, rfl, hsz⟩ := okWide_struct Try.underlying48 hv
  obtain ⟨l⟩ := cs
  match l, hsz.trans cellsP with
  | [v0, v1, v2, v3, v4, v5], _ =>
    obtain ⟨fuel, hf⟩ := hT
    obtain ⟨ds, n, _, hx, _, hlen, hg⟩ := DataW.trod_struct Try.underlying48 hf
    match ds, hlen with
    | [y0, y1, y2, y3, y4, y5], _ =>
      have h0 : DataW.trod enc Try.prog W 0 (fun _ => true) true n 4 [v0] = some y0 := by have := hg 0 _ rfl; simpa [cellsB, cellsStr, cellsSs, Value.cells] using this
      have h1 : DataW.trod enc Try.prog W 0 (fun _ => true) true n 4 [v1] = some y1 := by have := hg 1 _ rfl; simpa [cellsB, cellsStr, cellsSs, Value.cells] using this
      have h2 : DataW.trod enc Try.prog W 0 (fun _ => true) true n 4 [v2] = some y2 := by have := hg 2 _ rfl; simpa [cellsB, cellsStr, cellsSs, Value.cells] using this
      have h3 : DataW.trod enc Try.prog W 0 (fun _ => true) true n 9 [v3] = some y3 := by have := hg 3 _ rfl; simpa [cellsB, cellsStr, cellsSs, Value.cells] using this
      have h4 : DataW.trod enc Try.prog W 0 (fun _ => true) true n 29 [v4] = some y4 := by have := hg 4 _ rfl; simpa [cellsB, cellsStr, cellsSs, Value.cells] using this
      have h5 : DataW.trod enc Try.prog W 0 (fun _ => true) true n 29 [v5] = some y5 := by have := hg 5 _ rfl; simpa [cellsB, cellsStr, cellsSs, Value.cells] using this
      obtain ⟨h, e0, _⟩ := DataW.trod_bool Try.underlying4 h0
      obtain ⟨d, e1, _⟩ := DataW.trod_bool Try.underlying4 h1
      obtain ⟨o, e2, _⟩ := DataW.trod_bool Try.underlying4 h2
      obtain ⟨f, e3, _, hfs⟩ := DataW.trod_string Try.underlying9 h3
      obtain ⟨A, c, xs, rfl, hx, hl, hs⟩ := open_strs h4
      obtain ⟨B, b, ys, rfl, hy, hl', hs'⟩ := open_strs h5
      simp only [List.cons.injEq, and_true] at e0 e1 e2 e3
      subst e0 e1 e2 e3
      exact ⟨h, d, o, f, A, B, c, b, xs, ys, rfl, hfs, ⟨hx, hl, hs⟩, hy, hl', hs'⟩
set_option maxRecDepth 100000 in
set_option maxHeartbeats 2000000 in
theorem law_any (h d o : Bool) (f : ByteArray) (A B : Option Addr) (c b : Nat) (xs ys : List ByteArray) (w : World) (hx : Rd w w.heap.size A (xs.map Value.string)) (hy : Rd w w.heap.size B (ys.map Value.string)) (hf : f.size ≤ maxLen) (hl : xs.length ≤ maxLen) (hl' : ys.length ≤ maxLen) (hs : ∀ s ∈ xs, s.size ≤ maxLen) (hs' : ∀ s ∈ ys, s.size ≤ maxLen) :
    Calls Try.prog 7 #[smtpV h d o f A xs.length c B ys.length b] w fun e w' => e = .returned (.bool true) ∧ Below w.heap.size w w' := by
  have HX := Lib.hid hx
  have HY := Lib.hid hy
  have HS := Lib.hid (And.intro hs hs')
  clear hx hy hs hs'
  go_enter Try.func7, Try.ntmps7
  go_wp2_with fail
  refine (szSmtp_any _ _ _ _ _ _ _ _ _ _ _ (by exact Rd.next HX.out (by repeat (first | exact Below.refl _ _ | assumption | refine Below.drew ?_ | refine below_drewN ?_ _ | refine Below.setCell ?_ (by first | exact Nat.le_refl _ | exact Below.size (by assumption) | (simp; done) | (simp; omega) | omega) _ | refine Below.alloc ?_ (by first | exact Nat.le_refl _ | exact Below.size (by assumption) | (simp; done) | (simp; omega) | omega) _))) (by exact Rd.next HY.out (by repeat (first | exact Below.refl _ _ | assumption | refine Below.drew ?_ | refine below_drewN ?_ _ | refine Below.setCell ?_ (by first | exact Nat.le_refl _ | exact Below.size (by assumption) | (simp; done) | (simp; omega) | omega) _ | refine Below.alloc ?_ (by first | exact Nat.le_refl _ | exact Below.size (by assumption) | (simp; done) | (simp; omega) | omega) _))) hf hl hl' HS.out.1 HS.out.2).mono ?_
  rintro e w1 ⟨n, rfl, hn1, hn2, hb1⟩
  obtain ⟨hc1, hf1⟩ := bcell hb1; have hB1 : Below w.heap.size w w1 := Below.trans (by repeat (first | exact Below.refl _ _ | assumption | refine Below.drew ?_ | refine below_drewN ?_ _ | refine Below.setCell ?_ (by first | exact Nat.le_refl _ | exact Below.size (by assumption) | (simp; done) | (simp; omega) | omega) _ | refine Below.alloc ?_ (by first | exact Nat.le_refl _ | exact Below.size (by assumption) | (simp; done) | (simp; omega) | omega) _)) (hb1.mono (by first | exact Nat.le_refl _ | exact Below.size (by assumption) | (simp; done) | (simp; omega) | omega)); have hz1 := hB1.size; have hy1 := hb1.size; (try simp only [World.size_alloc, World.size_setCell, World.size_drew] at hy1)
  have hq1 : w.heap.size < w1.heap.size := by omega
  by_cases h0 : n < 0
  · go_wp2
    go_ret
    exact ⟨rfl, hB1⟩
  · obtain ⟨hlx, hly⟩ := hn2 (by omega)
    go_wp2_with fail
    refine (toSmtp_any _ _ _ _ _ _ _ _ _ _ _ (by exact Rd.next HX.out (by repeat (first | exact Below.refl _ _ | assumption | refine Below.drew ?_ | refine below_drewN ?_ _ | refine Below.setCell ?_ (by first | exact Nat.le_refl _ | exact Below.size (by assumption) | (simp; done) | (simp; omega) | omega) _ | refine Below.alloc ?_ (by first | exact Nat.le_refl _ | exact Below.size (by assumption) | (simp; done) | (simp; omega) | omega) _))) (by exact Rd.next HY.out (by repeat (first | exact Below.refl _ _ | assumption | refine Below.drew ?_ | refine below_drewN ?_ _ | refine Below.setCell ?_ (by first | exact Nat.le_refl _ | exact Below.size (by assumption) | (simp; done) | (simp; omega) | omega) _ | refine Below.alloc ?_ (by first | exact Nat.le_refl _ | exact Below.size (by assumption) | (simp; done) | (simp; omega) | omega) _))) (by omega) (by omega)).mono ?_
    rintro e w2 ⟨A2, c2, B2, b2, rfl, ho2, hp2, hb2⟩
    obtain ⟨hc2, hf2⟩ := bcell hb2; have hB2 : Below w.heap.size w w2 := Below.trans (by repeat (first | exact Below.refl _ _ | assumption | refine Below.drew ?_ | refine below_drewN ?_ _ | refine Below.setCell ?_ (by first | exact Nat.le_refl _ | exact Below.size (by assumption) | (simp; done) | (simp; omega) | omega) _ | refine Below.alloc ?_ (by first | exact Nat.le_refl _ | exact Below.size (by assumption) | (simp; done) | (simp; omega) | omega) _)) (hb2.mono (by first | exact Nat.le_refl _ | exact Below.size (by assumption) | (simp; done) | (simp; omega) | omega)); have hz2 := hB2.size; have hy2 := hb2.size; (try simp only [World.size_alloc, World.size_setCell, World.size_drew] at hy2)
    have hq2 : w.heap.size < w2.heap.size := by omega
    have HO2 := Lib.hid (And.intro (Rd.own ho2) (Rd.own hp2))
    clear ho2 hp2
    go_wp2_with fail
    refine (specSmtpOK_any _ _ _ _ _ _ _ _ xs ys _ HO2.out.1 HO2.out.2 hf (by omega) (by omega) HS.out.1 HS.out.2).mono ?_
    rintro e w3 ⟨rfl, hb3⟩
    obtain ⟨hc3, hf3⟩ := bcell hb3; have hB3 : Below w.heap.size w w3 := Below.trans (by repeat (first | exact Below.refl _ _ | assumption | refine Below.drew ?_ | refine below_drewN ?_ _ | refine Below.setCell ?_ (by first | exact Nat.le_refl _ | exact Below.size (by assumption) | (simp; done) | (simp; omega) | omega) _ | refine Below.alloc ?_ (by first | exact Nat.le_refl _ | exact Below.size (by assumption) | (simp; done) | (simp; omega) | omega) _)) (hb3.mono (by first | exact Nat.le_refl _ | exact Below.size (by assumption) | (simp; done) | (simp; omega) | omega)); have hz3 := hB3.size; have hy3 := hb3.size; (try simp only [World.size_alloc, World.size_setCell, World.size_drew] at hy3)
    have hq3 : w.heap.size < w3.heap.size := by omega
    clear HO2
    go_wp2_with fail
    refine (toSmtp_any _ _ _ _ _ _ _ _ _ _ _ (by exact Rd.next HX.out (by repeat (first | exact Below.refl _ _ | assumption | refine Below.drew ?_ | refine below_drewN ?_ _ | refine Below.setCell ?_ (by first | exact Nat.le_refl _ | exact Below.size (by assumption) | (simp; done) | (simp; omega) | omega) _ | refine Below.alloc ?_ (by first | exact Nat.le_refl _ | exact Below.size (by assumption) | (simp; done) | (simp; omega) | omega) _))) (by exact Rd.next HY.out (by repeat (first | exact Below.refl _ _ | assumption | refine Below.drew ?_ | refine below_drewN ?_ _ | refine Below.setCell ?_ (by first | exact Nat.le_refl _ | exact Below.size (by assumption) | (simp; done) | (simp; omega) | omega) _ | refine Below.alloc ?_ (by first | exact Nat.le_refl _ | exact Below.size (by assumption) | (simp; done) | (simp; omega) | omega) _))) (by omega) (by omega)).mono ?_
    rintro e w4 ⟨A4, c4, B4, b4, rfl, ho4, hp4, hb4⟩
    obtain ⟨hc4, hf4⟩ := bcell hb4; have hB4 : Below w.heap.size w w4 := Below.trans (by repeat (first | exact Below.refl _ _ | assumption | refine Below.drew ?_ | refine below_drewN ?_ _ | refine Below.setCell ?_ (by first | exact Nat.le_refl _ | exact Below.size (by assumption) | (simp; done) | (simp; omega) | omega) _ | refine Below.alloc ?_ (by first | exact Nat.le_refl _ | exact Below.size (by assumption) | (simp; done) | (simp; omega) | omega) _)) (hb4.mono (by first | exact Nat.le_refl _ | exact Below.size (by assumption) | (simp; done) | (simp; omega) | omega)); have hz4 := hB4.size; have hy4 := hb4.size; (try simp only [World.size_alloc, World.size_setCell, World.size_drew] at hy4)
    have hq4 : w.heap.size < w4.heap.size := by omega
    have hc4 : xs.length ≤ c4 := by
      obtain ⟨_, _, e, hle⟩ := own_form ho4
      cases e
      exact hle
    have HO4 := Lib.hid (And.intro (Rd.own ho4) (And.intro (Rd.own hp4) (plain_own ho4)))
    clear ho4 hp4
    go_wp2_with fail
    refine (implSmtpOK_any _ _ _ _ _ _ _ _ xs ys _ (Rd.next HO4.out.1 (by repeat (first | exact Below.refl _ _ | assumption | refine Below.drew ?_ | refine below_drewN ?_ _ | refine Below.setCell ?_ (by first | exact Nat.le_refl _ | exact Below.size (by assumption) | (simp; done) | (simp; omega) | omega) _ | refine Below.alloc ?_ (by first | exact Nat.le_refl _ | exact Below.size (by assumption) | (simp; done) | (simp; omega) | omega) _))) HO4.out.2.2 (Rd.next HO4.out.2.1 (by repeat (first | exact Below.refl _ _ | assumption | refine Below.drew ?_ | refine below_drewN ?_ _ | refine Below.setCell ?_ (by first | exact Nat.le_refl _ | exact Below.size (by assumption) | (simp; done) | (simp; omega) | omega) _ | refine Below.alloc ?_ (by first | exact Nat.le_refl _ | exact Below.size (by assumption) | (simp; done) | (simp; omega) | omega) _))) hf (by omega) hc4 (by omega) HS.out.1 HS.out.2).mono ?_
    rintro e w5 ⟨rfl, hb5⟩
    obtain ⟨hc5, hf5⟩ := bcell hb5; have hB5 : Below w.heap.size w w5 := Below.trans (by repeat (first | exact Below.refl _ _ | assumption | refine Below.drew ?_ | refine below_drewN ?_ _ | refine Below.setCell ?_ (by first | exact Nat.le_refl _ | exact Below.size (by assumption) | (simp; done) | (simp; omega) | omega) _ | refine Below.alloc ?_ (by first | exact Nat.le_refl _ | exact Below.size (by assumption) | (simp; done) | (simp; omega) | omega) _)) (hb5.mono (by first | exact Nat.le_refl _ | exact Below.size (by assumption) | (simp; done) | (simp; omega) | omega)); have hz5 := hB5.size; have hy5 := hb5.size; (try simp only [World.size_alloc, World.size_setCell, World.size_drew] at hy5)
    have hq5 : w.heap.size < w5.heap.size := by omega
    have hr5 : w4.heap.size < w5.heap.size := by omega
    have K : w5.cell? ⟨w.heap.size, 0, none⟩ = some (.bool h) ∧ w5.cell? ⟨w.heap.size, 1, none⟩ = some (.bool d) ∧ w5.cell? ⟨w.heap.size, 2, none⟩ = some (.bool o) ∧ w5.cell? ⟨w.heap.size, 3, none⟩ = some (.string f) ∧ w5.cell? ⟨w.heap.size, 4, none⟩ = some (.slice A xs.length c) ∧ w5.cell? ⟨w.heap.size, 5, none⟩ = some (.slice B ys.length b) ∧ w5.cell? ⟨w4.heap.size, 0, none⟩ = some (.bool h) ∧ w5.cell? ⟨w4.heap.size, 1, none⟩ = some (.bool d) ∧ w5.cell? ⟨w4.heap.size, 2, none⟩ = some (.bool o) ∧ w5.cell? ⟨w4.heap.size, 3, none⟩ = some (.string f) ∧ w5.cell? ⟨w4.heap.size, 4, none⟩ = some (.slice A4 xs.length c4) ∧ w5.cell? ⟨w4.heap.size, 5, none⟩ = some (.slice B4 ys.length b4) := by
      refine ⟨?_, ?_, ?_, ?_, ?_, ?_, ?_, ?_, ?_, ?_, ?_, ?_⟩ <;> simp [go_sem, *]
    have hX4 : Rd w5 w5.heap.size A4 (xs.map Value.string) := Rd.next (Rd.next HO4.out.1 (by repeat (first | exact Below.refl _ _ | assumption | refine Below.drew ?_ | refine below_drewN ?_ _ | refine Below.setCell ?_ (by first | exact Nat.le_refl _ | exact Below.size (by assumption) | (simp; done) | (simp; omega) | omega) _ | refine Below.alloc ?_ (by first | exact Nat.le_refl _ | exact Below.size (by assumption) | (simp; done) | (simp; omega) | omega) _))) hb5
    have hY4 : Rd w5 w5.heap.size B4 (ys.map Value.string) := Rd.next (Rd.next HO4.out.2.1 (by repeat (first | exact Below.refl _ _ | assumption | refine Below.drew ?_ | refine below_drewN ?_ _ | refine Below.setCell ?_ (by first | exact Nat.le_refl _ | exact Below.size (by assumption) | (simp; done) | (simp; omega) | omega) _ | refine Below.alloc ?_ (by first | exact Nat.le_refl _ | exact Below.size (by assumption) | (simp; done) | (simp; omega) | omega) _))) hb5
    have HZ := Lib.hid (And.intro hX4 hY4)
    obtain ⟨k0, k1, k2, k3, k4, k5, k6, k7, k8, k9, k10, k11⟩ := K
    clear hX4 hY4 HO4 hc1 hc2 hc3 hc4 hc5 hf1 hf2 hf3 hf4 hf5
    go_wp2_with fail
    go_region_held3 (fun w' => w'.cell? ⟨w.heap.size, 0, none⟩ = some (.bool h) ∧ w'.cell? ⟨w.heap.size, 1, none⟩ = some (.bool d) ∧ w'.cell? ⟨w.heap.size, 2, none⟩ = some (.bool o) ∧ w'.cell? ⟨w.heap.size, 3, none⟩ = some (.string f) ∧ w'.cell? ⟨w.heap.size, 4, none⟩ = some (.slice A xs.length c) ∧ w'.cell? ⟨w.heap.size, 5, none⟩ = some (.slice B ys.length b) ∧ w'.cell? ⟨w4.heap.size, 0, none⟩ = some (.bool h) ∧ w'.cell? ⟨w4.heap.size, 1, none⟩ = some (.bool d) ∧ w'.cell? ⟨w4.heap.size, 2, none⟩ = some (.bool o) ∧ w'.cell? ⟨w4.heap.size, 3, none⟩ = some (.string f) ∧ w'.cell? ⟨w4.heap.size, 4, none⟩ = some (.slice A4 xs.length c4) ∧ w'.cell? ⟨w4.heap.size, 5, none⟩ = some (.slice B4 ys.length b4))
      (refine ⟨?_, ?_, ?_, ?_, ?_, ?_, ?_, ?_, ?_, ?_, ?_, ?_⟩ <;> first | assumption | (exact ((hb6.cell (p := ⟨_, _, none⟩) (by simp; omega)).trans (by assumption))) | (exact (hb7.cell (p := ⟨_, _, none⟩) (by dsimp only; omega)).trans ((hb6.cell (p := ⟨_, _, none⟩) (by simp; omega)).trans (by assumption))))
      (first
        | (go_at_call 40; refine (toSmtp_any _ _ _ _ _ _ _ _ _ _ _ (by exact Rd.next HX.out (by repeat (first | exact Below.refl _ _ | assumption | refine Below.drew ?_ | refine below_drewN ?_ _ | refine Below.setCell ?_ (by first | exact Nat.le_refl _ | exact Below.size (by assumption) | (simp; done) | (simp; omega) | omega) _ | refine Below.alloc ?_ (by first | exact Nat.le_refl _ | exact Below.size (by assumption) | (simp; done) | (simp; omega) | omega) _))) (by exact Rd.next HY.out (by repeat (first | exact Below.refl _ _ | assumption | refine Below.drew ?_ | refine below_drewN ?_ _ | refine Below.setCell ?_ (by first | exact Nat.le_refl _ | exact Below.size (by assumption) | (simp; done) | (simp; omega) | omega) _ | refine Below.alloc ?_ (by first | exact Nat.le_refl _ | exact Below.size (by assumption) | (simp; done) | (simp; omega) | omega) _))) (by omega) (by omega)).mono ?_; rintro e w6 ⟨A6, c6, B6, b6, rfl, ho6, hp6, hb6⟩; have hs6 : w5.heap.size ≤ w6.heap.size := (by have := hb6.size; simpa using this))
        | (go_at_call 25; refine (eqSmtp_eq _ _ _ _ _ _ _ _ _ _ _ _ _ _ _ ((HZ.out.1.below (below_after (Below.refl _ _).drew hb6)).more hs6) (Rd.own ho6) ((HZ.out.2.below (below_after (Below.refl _ _).drew hb6)).more hs6) (Rd.own hp6) (by simp only [maxLen]; omega) (by simp only [maxLen]; omega)).mono ?_; rintro e w7 ⟨rfl, hb7⟩))
    have hB7 := below_after (below_after hB5.drew hb6) hb7
    clear hb6 hb7
    go_wp2_with fail
    go_ret
    exact ⟨rfl, hB7⟩

set_option maxRecDepth 100000 in
theorem lifted (os : Os) (started : os.Started) (H : Type) (enc : TypeId × Value → H) :
    ReturnsInHanded {} Try.checked os 7 .any (Rows.fnExactSmtpOKSpec.pre6 enc Try.prog Try.f7 Rows.fnExactSmtpOKRow.domain false) (Rows.fnExactSmtpOKSpec.post enc Try.prog Try.f7 false true false false) := by
  refine returnsInHanded_of_change_sized (C := Try.checked) Facts.own started (by kernel_rfl) Try.func7
    (ChangeSpec.witness6 (enc := enc) (C := Try.checked) false ⟨#[], #[.agg #[.bool false, .bool false, .bool false, .string ⟨#[]⟩, .slice none 0 0, .slice none 0 0]], []⟩ 8 (by kernel_rfl) (by kernel_rfl) (by kernel_rfl) (by kernel_rfl)) ?_
  intro W base args ds gs before hval0 hW hcnd hsz0 _
  have hsz : (DataW.weightsEach Try.prog (Try.f7.params.toList ++ Rows.fnExactSmtpOKSpec.plain.varTypes Try.prog) (ds ++ gs)).all (· ≤ reachBytes) = true := hsz0
  have hval : ∀ (j : Nat) t v, Try.f7.params[j]? = some t → args[j]? = some v → Value.okWide Try.prog W .any base t v := hval0
  have hW' := hW
  obtain ⟨p, q, hA0, hV, rfl, hfz, hnd⟩ := hW
  have hA : DataW.TrodAll enc Try.prog W 0 (fun _ => true) true Try.f7.params.toList args.toList ds p := hA0
  rw [Try.params7] at hA hval hsz
  obtain ⟨rfl, rfl⟩ := trodVars_none hV
  have hltp : ∀ x ∈ p, x.block < W.heap.size := fun x hx => by simpa using hW'.lt x (by simp [hx])
  clear hA0 hval0 hsz0
  obtain ⟨v0, d0, rfl, rfl, h0⟩ := trodAll_one hA
  have h0k := h0
  obtain ⟨h, d, o, f, A, B, c, b, xs, ys, rfl, hf, ⟨hx, hl, hs⟩, hy, hl', hs'⟩ := open_smtp (hval 0 48 v0 rfl rfl) h0
  refine (law_any h d o f A B c b xs ys W hx hy hf hl hl' hs hs').mono fun e W' ⟨he, bel⟩ => ?_
  subst he
  exact ⟨_, rfl, _, _, _, [], _, [], hW', trodAll_mk1 (shut_bool Try.underlying4 _), trodAll_mk1 (Below.trod Facts.laidOut (by kernel_rfl) (of_decide_eq_true (by kernel_rfl)) h0k bel hltp), rfl, bel.frame _, fun h => by cases h⟩
theorem named_ : Try.pinned.checked.prog.funcNamed Rows.fnExactSmtpOKRow.func = some 7 := by kernel_rfl
set_option maxHeartbeats 8000000 in
theorem closed_ : joinedFacts Try.pinned.checked.prog 7 Try.f7 Rows.fnExactSmtpOKSpec Rows.fnExactSmtpOKRow = true := by
  unfold joinedFacts
  with_reducible repeat' (refine Facts.and_t ?_ ?_)
  all_goals first
    | with_reducible exact Facts.laidOut
    | with_reducible exact Facts.mapsRowed
    | with_reducible exact Facts.stopsHeard
    | with_reducible exact Facts.mayEnter
    | (rw [Facts.plainKeys]; as_aux_lemma => kernel_rfl)
    | (rw [Facts.lifts]; as_aux_lemma => kernel_rfl)
    | (rw [Facts.make_]; as_aux_lemma => kernel_rfl)
    | as_aux_lemma => kernel_rfl
theorem inst_ : Try.f7.isInstance Try.pinned.checked.prog Rows.fnExactSmtpOKRow.origin Rows.fnExactSmtpOKRow.targs := of_decide_eq_true (by kernel_rfl)
theorem wrap_ : Try.f7.isWrapper Try.pinned.checked.prog Rows.fnExactSmtpOKRow.wrapper Rows.fnExactSmtpOKRow.mainSum := by unfold Func.isWrapper; first | (rw [if_pos (by decide +kernel)]; kernel_rfl) | (rw [if_neg (by decide +kernel)]; exact ⟨rfl, rfl⟩)
theorem over : Rows.fnExactSmtpOKRow.holds Try.pinned (OpenSpec.ofChange Rows.fnExactSmtpOKSpec) :=
  OpenClaim.holds_of_wide 7 Try.f7 rfl rfl rfl rfl rfl rfl rfl ⟨rfl, rfl, rfl, rfl, rfl⟩ rfl rfl rfl rfl rfl named_ Try.func7 closed_ inst_ wrap_
    (fun os started H enc _ => lifted os started H enc)
theorem proved : Rows.FnExactSmtpOKSaid := over
#print axioms proved
end Go.Proofs.Ytlfnpnkpjdmonaa.lawSmtpOK
namespace Go.Proofs.Ytlfnpnkpjdmonaa
/-- The row, under a short name, for the claim. -/
theorem fnExactSmtpOK_holds : Rows.FnExactSmtpOKSaid := lawSmtpOK.proved
end Go.Proofs.Ytlfnpnkpjdmonaa
