import Derived.Test.YtlfnpnkpjdmonaaTexts
set_option linter.unusedVariables false
set_option linter.unusedSimpArgs false
namespace Go.Proofs.Ytlfnpnkpjdmonaa
open Go.RowKit

/-! ### a session that takes mail: equality, marks -/
@[reducible] def smtpV (h d o : Bool) (f : ByteArray) (A : Option Addr) (n c : Nat) (B : Option Addr) (m e : Nat) : Value :=
  .agg #[.bool h, .bool d, .bool o, .string f, .slice A n c, .slice B m e]

def NewS (w : World) (e : Ending) (w' : World) : Prop := ∃ A c B d, e = .returned (smtpV false false true ⟨#[]⟩ A 0 c B 0 d) ∧ w'.ownsRow w.heap.size 9 1 (.slice A 0 c) 0 [] ∧ w'.ownsRow w.heap.size 9 1 (.slice B 0 d) 0 [] ∧ ((Value.slice A 0 c).ownBlock = none ∨ (Value.slice A 0 c).ownBlock ≠ (Value.slice B 0 d).ownBlock) ∧ Below w.heap.size w w'

theorem implNewSmtp_any (w : World) : Calls Try.prog 24 #[] w (NewS w) := by
  go_enter Try.func24, Try.ntmps24
  go_wp2
  refine bodyPost_ret (v := smtpV false false true ⟨#[]⟩ none 0 0 none 0 0) (by simp [results, Try.results24, go_sem]) rfl ⟨_, _, _, _, rfl, World.ownsRow_nil _ _ _ _, World.ownsRow_nil _ _ _ _, .inl rfl, ?_⟩
  repeat (first | exact Below.refl _ _ | assumption | refine Below.drew ?_ | refine below_drewN ?_ _ | refine Below.setCell ?_ (by first | exact Nat.le_refl _ | exact Below.size (by assumption) | (simp; done) | (simp; omega) | omega) _ | refine Below.alloc ?_ (by first | exact Nat.le_refl _ | exact Below.size (by assumption) | (simp; done) | (simp; omega) | omega) _)
theorem specNewSmtp_any (w : World) : Calls Try.prog 23 #[] w (NewS w) := by
  go_enter Try.func23, Try.ntmps23
  go_wp2
  refine bodyPost_ret (v := smtpV false false true ⟨#[]⟩ (some ⟨w.heap.size + 1, 0, none⟩) 0 0 (some ⟨w.heap.size + 1 + 1, 0, none⟩) 0 0) (by simp [results, Try.results23, go_sem]) rfl ⟨_, _, _, _, rfl, ?_, ?_, .inr (by simp [Value.ownBlock]), ?_⟩
  · exact own_empty_at (by omega) (heap3_b _ _ _ _)
  · exact own_empty_at (by omega) (heap3_c _ _ _ _)
  · repeat (first | exact Below.refl _ _ | assumption | refine Below.drew ?_ | refine below_drewN ?_ _ | refine Below.setCell ?_ (by first | exact Nat.le_refl _ | exact Below.size (by assumption) | (simp; done) | (simp; omega) | omega) _ | refine Below.alloc ?_ (by first | exact Nat.le_refl _ | exact Below.size (by assumption) | (simp; done) | (simp; omega) | omega) _)

set_option maxRecDepth 100000 in
theorem eqSmtp_eq (h d o : Bool) (f : ByteArray) (xs ys : List ByteArray) (A A' B B' : Option Addr) (c c' b b' : Nat) (w : World)
    (h1 : Rd w w.heap.size A (xs.map Value.string)) (h2 : Rd w w.heap.size A' (xs.map Value.string)) (h3 : Rd w w.heap.size B (ys.map Value.string)) (h4 : Rd w w.heap.size B' (ys.map Value.string)) (l1 : xs.length ≤ maxLen) (l2 : ys.length ≤ maxLen) :
    Calls Try.prog 25 #[smtpV h d o f A xs.length c B ys.length b, smtpV h d o f A' xs.length c' B' ys.length b'] w fun e w' => e = .returned (.bool true) ∧ Below w.heap.size w w' := by
  have H1 := Lib.hid h1
  have H2 := Lib.hid h2
  have H3 := Lib.hid h3
  have H4 := Lib.hid h4
  clear h1 h2 h3 h4
  go_enter Try.func25, Try.ntmps25
  go_wp2_with fail
  refine (eqStringS_any _ _ _ _ _ _ _ (by exact Rd.next H1.out (by repeat (first | exact Below.refl _ _ | assumption | refine Below.drew ?_ | refine below_drewN ?_ _ | refine Below.setCell ?_ (by first | exact Nat.le_refl _ | exact Below.size (by assumption) | (simp; done) | (simp; omega) | omega) _ | refine Below.alloc ?_ (by first | exact Nat.le_refl _ | exact Below.size (by assumption) | (simp; done) | (simp; omega) | omega) _))) (by exact Rd.next H2.out (by repeat (first | exact Below.refl _ _ | assumption | refine Below.drew ?_ | refine below_drewN ?_ _ | refine Below.setCell ?_ (by first | exact Nat.le_refl _ | exact Below.size (by assumption) | (simp; done) | (simp; omega) | omega) _ | refine Below.alloc ?_ (by first | exact Nat.le_refl _ | exact Below.size (by assumption) | (simp; done) | (simp; omega) | omega) _))) l1 l1).mono ?_
  rintro e w1 ⟨rfl, hb1⟩
  obtain ⟨hc1, hf1⟩ := bcell hb1; have hB1 : Below w.heap.size w w1 := Below.trans (by repeat (first | exact Below.refl _ _ | assumption | refine Below.drew ?_ | refine below_drewN ?_ _ | refine Below.setCell ?_ (by first | exact Nat.le_refl _ | exact Below.size (by assumption) | (simp; done) | (simp; omega) | omega) _ | refine Below.alloc ?_ (by first | exact Nat.le_refl _ | exact Below.size (by assumption) | (simp; done) | (simp; omega) | omega) _)) (hb1.mono (by first | exact Nat.le_refl _ | exact Below.size (by assumption) | (simp; done) | (simp; omega) | omega)); have hz1 := hB1.size; have hy1 := hb1.size; (try simp only [World.size_alloc, World.size_setCell, World.size_drew] at hy1)
  simp only [decide_true]
  go_wp2_with fail
  refine (eqStringS_any _ _ _ _ _ _ _ (by exact Rd.next H3.out (by repeat (first | exact Below.refl _ _ | assumption | refine Below.drew ?_ | refine below_drewN ?_ _ | refine Below.setCell ?_ (by first | exact Nat.le_refl _ | exact Below.size (by assumption) | (simp; done) | (simp; omega) | omega) _ | refine Below.alloc ?_ (by first | exact Nat.le_refl _ | exact Below.size (by assumption) | (simp; done) | (simp; omega) | omega) _))) (by exact Rd.next H4.out (by repeat (first | exact Below.refl _ _ | assumption | refine Below.drew ?_ | refine below_drewN ?_ _ | refine Below.setCell ?_ (by first | exact Nat.le_refl _ | exact Below.size (by assumption) | (simp; done) | (simp; omega) | omega) _ | refine Below.alloc ?_ (by first | exact Nat.le_refl _ | exact Below.size (by assumption) | (simp; done) | (simp; omega) | omega) _))) l2 l2).mono ?_
  rintro e w2 ⟨rfl, hb2⟩
  obtain ⟨hc2, hf2⟩ := bcell hb2; have hB2 : Below w.heap.size w w2 := Below.trans (by repeat (first | exact Below.refl _ _ | assumption | refine Below.drew ?_ | refine below_drewN ?_ _ | refine Below.setCell ?_ (by first | exact Nat.le_refl _ | exact Below.size (by assumption) | (simp; done) | (simp; omega) | omega) _ | refine Below.alloc ?_ (by first | exact Nat.le_refl _ | exact Below.size (by assumption) | (simp; done) | (simp; omega) | omega) _)) (hb2.mono (by first | exact Nat.le_refl _ | exact Below.size (by assumption) | (simp; done) | (simp; omega) | omega)); have hz2 := hB2.size; have hy2 := hb2.size; (try simp only [World.size_alloc, World.size_setCell, World.size_drew] at hy2)
  simp only [decide_true]
  go_wp2_with fail
  go_ret
  exact ⟨rfl, hB2⟩

theorem heldSmtp_any (h d o : Bool) (f : ByteArray) (n m : Nat) (A B : Option Addr) (c b : Nat) (k : Int) (w : World) (h1 : Rd w w.heap.size A (marks k n)) (h2 : Rd w w.heap.size B (marks (k + n) m)) (l1 : n ≤ 1048576) (l2 : m ≤ 1048576) (h0 : 0 ≤ k) (hk : k ≤ 1048576) :
    Calls Try.prog 27 #[smtpV h d o f A n c B m b, .int .i64 k] w fun e w' => e = .returned (.int .i64 (k + n + m)) ∧ Below w.heap.size w w' := by
  have H1 := Lib.hid h1
  have H2 := Lib.hid h2
  clear h1 h2
  go_enter Try.func27, Try.ntmps27
  go_wp2_with fail
  refine (heldStringS_any _ _ _ _ _ (by exact Rd.next H1.out (by repeat (first | exact Below.refl _ _ | assumption | refine Below.drew ?_ | refine below_drewN ?_ _ | refine Below.setCell ?_ (by first | exact Nat.le_refl _ | exact Below.size (by assumption) | (simp; done) | (simp; omega) | omega) _ | refine Below.alloc ?_ (by first | exact Nat.le_refl _ | exact Below.size (by assumption) | (simp; done) | (simp; omega) | omega) _))) (by omega) h0 (by omega)).mono ?_
  rintro e w1 ⟨rfl, hb1⟩
  obtain ⟨hc1, hf1⟩ := bcell hb1; have hB1 : Below w.heap.size w w1 := Below.trans (by repeat (first | exact Below.refl _ _ | assumption | refine Below.drew ?_ | refine below_drewN ?_ _ | refine Below.setCell ?_ (by first | exact Nat.le_refl _ | exact Below.size (by assumption) | (simp; done) | (simp; omega) | omega) _ | refine Below.alloc ?_ (by first | exact Nat.le_refl _ | exact Below.size (by assumption) | (simp; done) | (simp; omega) | omega) _)) (hb1.mono (by first | exact Nat.le_refl _ | exact Below.size (by assumption) | (simp; done) | (simp; omega) | omega)); have hz1 := hB1.size; have hy1 := hb1.size; (try simp only [World.size_alloc, World.size_setCell, World.size_drew] at hy1)
  go_wp2_with fail
  refine (heldStringS_any _ _ _ _ _ (by exact Rd.next H2.out (by repeat (first | exact Below.refl _ _ | assumption | refine Below.drew ?_ | refine below_drewN ?_ _ | refine Below.setCell ?_ (by first | exact Nat.le_refl _ | exact Below.size (by assumption) | (simp; done) | (simp; omega) | omega) _ | refine Below.alloc ?_ (by first | exact Nat.le_refl _ | exact Below.size (by assumption) | (simp; done) | (simp; omega) | omega) _))) (by omega) (by omega) (by omega)).mono ?_
  rintro e w2 ⟨rfl, hb2⟩
  obtain ⟨hc2, hf2⟩ := bcell hb2; have hB2 : Below w.heap.size w w2 := Below.trans (by repeat (first | exact Below.refl _ _ | assumption | refine Below.drew ?_ | refine below_drewN ?_ _ | refine Below.setCell ?_ (by first | exact Nat.le_refl _ | exact Below.size (by assumption) | (simp; done) | (simp; omega) | omega) _ | refine Below.alloc ?_ (by first | exact Nat.le_refl _ | exact Below.size (by assumption) | (simp; done) | (simp; omega) | omega) _)) (hb2.mono (by first | exact Nat.le_refl _ | exact Below.size (by assumption) | (simp; done) | (simp; omega) | omega)); have hz2 := hB2.size; have hy2 := hb2.size; (try simp only [World.size_alloc, World.size_setCell, World.size_drew] at hy2)
  go_wp2_with fail
  go_ret
  exact ⟨rfl, hB2⟩
theorem markSmtp_any (base : Nat) (h d o : Bool) (f : ByteArray) (n m : Nat) (xs ys : List Value) (A B : Option Addr) (c b : Nat) (k : Int) (w : World) (h1 : w.ownsRow base 9 1 (.slice A n c) n xs) (h2 : w.ownsRow base 9 1 (.slice B m b) m ys)
    (hne : (Value.slice A n c).ownBlock = none ∨ (Value.slice A n c).ownBlock ≠ (Value.slice B m b).ownBlock) (l1 : n ≤ 1048576) (l2 : m ≤ 1048576) (h0 : 0 ≤ k) (hk : k ≤ 1048576) :
    Calls Try.prog 26 #[smtpV h d o f A n c B m b, .int .i64 k] w fun e w' => e = .returned (.int .i64 (k + n + m)) ∧ w'.ownsRow base 9 1 (.slice A n c) n (marks k n) ∧ w'.ownsRow base 9 1 (.slice B m b) m (marks (k + n) m) ∧ Wr w w' [(Value.slice A n c).ownBlock, (Value.slice B m b).ownBlock] := by
  have H1 := Lib.hid (own_below h1 ((Below.refl _ _).alloc (Nat.le_refl _) (.cells #[.bool h, .bool d, .bool o, .string f, .slice A n c, .slice B m b] 31)))
  have H2 := Lib.hid (own_below h2 ((Below.refl _ _).alloc (Nat.le_refl _) (.cells #[.bool h, .bool d, .bool o, .string f, .slice A n c, .slice B m b] 31)))
  have hA : (Value.slice A n c).ownBlock ≠ some w.heap.size := fun e => by have := (h1.lt _ e).2; omega
  have hB : (Value.slice B m b).ownBlock ≠ some w.heap.size := fun e => by have := (h2.lt _ e).2; omega
  have hne' : (Value.slice B m b).ownBlock = none ∨ (Value.slice B m b).ownBlock ≠ (Value.slice A n c).ownBlock := by
    rcases hne with e | e
    · rw [e]
      cases (Value.slice B m b).ownBlock <;> simp
    · exact .inr (Ne.symm e)
  have HN := Lib.hid hne
  have HN' := Lib.hid hne'
  have HA := Lib.hid hA
  have HB := Lib.hid hB
  clear hne hne' h1 h2 hA hB
  go_enter Try.func26, Try.ntmps26
  go_wp2_with fail
  refine (markStringS_any base _ _ _ _ _ H1.out (by omega) h0 (by omega)).mono ?_
  rintro e w1 ⟨rfl, ho1, hg1⟩
  have HO1 := Lib.hid ho1
  have H3 := Lib.hid (H2.out.kept hg1 HN'.out)
  have hc1 : ∀ i, w1.cell? ⟨w.heap.size, i, none⟩ = (w.alloc (.cells #[.bool h, .bool d, .bool o, .string f, .slice A n c, .slice B m b] 31)).cell? ⟨w.heap.size, i, none⟩ := fun i => World.cell?_of_block (a := ⟨w.heap.size, i, none⟩) (hg1.block _ (by simp) (fun e => HA.out e.symm))
  have HG1 := Lib.hid hg1
  clear ho1 hg1
  go_wp2_with fail
  refine (markStringS_any base _ _ _ _ _ H3.out (by omega) (by omega) (by omega)).mono ?_
  rintro e w2 ⟨rfl, ho2, hg2⟩
  have HO2 := Lib.hid (And.intro ho2 (HO1.out.kept hg2 HN.out))
  have HG2 := Lib.hid hg2
  clear ho2 hg2
  go_wp2_with fail
  go_ret
  refine ⟨rfl, HO2.out.2, HO2.out.1, ?_⟩
  exact ((Wr.of_below ((Below.refl _ _).alloc (Nat.le_refl _) _) _).trans (Wr.of_grown HG1.out (by simp))).trans (Wr.of_grown HG2.out (by simp))
end Go.Proofs.Ytlfnpnkpjdmonaa
