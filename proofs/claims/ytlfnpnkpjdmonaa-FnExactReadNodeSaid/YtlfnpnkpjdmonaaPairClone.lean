import Derived.Test.YtlfnpnkpjdmonaaPairAt
import Derived.Test.YtlfnpnkpjdmonaaPush
import Derived.WalkSpells
set_option linter.unusedVariables false
set_option linter.unusedSimpArgs false
namespace Go.Proofs.Ytlfnpnkpjdmonaa
open Go.RowKit

theorem elPair : ElT Try.prog 59 82 2 32 := by
  obtain ⟨i, hi, hz, hs, hb⟩ := info_parts infoPair
  exact ⟨i, _, Try.underlying59, hi, hz, hs, hb, rfl, by decide⟩
theorem pr_one (l : List Pr) : ∀ u ∈ flat encP l, u.oneCell' = true := by
  intro u hu
  unfold flat at hu
  obtain ⟨p, _, hp⟩ := List.mem_flatMap.1 hu
  simp [encP] at hp
  rcases hp with rfl | rfl <;> rfl
def ClonePost (l : List Pr) (w : World) (e : Ending) (w' : World) : Prop := ∃ v, e = .returned v ∧ w'.ownsRow w.heap.size 82 2 v l.length (flat encP l) ∧ Below w.heap.size w w'
set_option maxRecDepth 100000 in
theorem clone_any (A : Option Addr) (c : Nat) (l : List Pr) (w : World) (hx : Rd w w.heap.size A (flat encP l)) (hl : l.length ≤ 1048576) (hc : A = none → c = 0) :
    Calls Try.prog 135 #[.slice A l.length c] w (ClonePost l w) := by
  cases A with
  | none =>
    have h0 : l = [] := by
      rcases l with _ | ⟨p, l⟩
      · rfl
      · obtain ⟨ad, e, _⟩ := hx (by simp [flat, encP])
        cases e
    subst h0
    obtain rfl := hc rfl
    have h1 : ∀ (w : World) (a : Option Addr) (n c n' c' : Nat), (binOp .eql 59 (.slice a n c) (.slice none n' c')).run Try.prog w = .ok (.bool a.isNone) w := fun w a n c n' c' => Lib.run_eql_slice_nil w _ _ a n c n' c' Try.underlying59
    clear hx hc
    go_enter Try.func135, Try.ntmps135
    go_wp2
    go_ret
    exact ⟨_, rfl, World.ownsRow_nil _ _ _ _, Below.refl _ _⟩
  | some ad =>
    have h1 : ∀ (w : World) (a : Option Addr) (n c n' c' : Nat), (binOp .eql 59 (.slice a n c) (.slice none n' c')).run Try.prog w = .ok (.bool a.isNone) w := fun w a n c n' c' => Lib.run_eql_slice_nil w _ _ a n c n' c' Try.underlying59
    have hb : Below w.heap.size w (w.alloc (.cells #[] 82)) := by repeat (first | exact Below.refl _ _ | assumption | refine Below.drew ?_ | refine below_drewN ?_ _ | refine Below.setCell ?_ (by first | exact Nat.le_refl _ | exact Below.size (by assumption) | (simp; done) | (simp; omega) | omega) _ | refine Below.alloc ?_ (by first | exact Nat.le_refl _ | exact Below.size (by assumption) | (simp; done) | (simp; omega) | omega) _)
    have HX := Lib.hid (hx.next hb)
    have H0 : Hid ((w.alloc (.cells #[] 82)).ownsRow w.heap.size 82 2 (.slice (some ⟨w.heap.size, 0, none⟩) 0 0) 0 []) := own_empty_at (Nat.le_refl _) (heap_alloc_new _ _)
    have HB := Lib.hid hb
    clear hx hb hc
    go_enter Try.func135, Try.ntmps135
    go_wp2_with (at_builtin; refine push_row elPair rfl _ _ rfl w.heap.size _ 0 [] rfl H0.out (w.heap.size + 1) (some ad) l.length c (flat encP l) rfl (by have := HX.out; simpa using this) (flat_length encP_len l) (pr_one l) (by simp only [maxLen]; omega) (by omega) (by simp) (fun h => by cases h) ?_)
    intro v2 w2 hp
    have hb2 := hp.below H0.out HB.out (by simp)
    have HP := Lib.hid hp.1
    clear hp
    go_wp2
    go_ret
    exact ⟨v2, rfl, by simpa using HP.out, hb2⟩
end Go.Proofs.Ytlfnpnkpjdmonaa
