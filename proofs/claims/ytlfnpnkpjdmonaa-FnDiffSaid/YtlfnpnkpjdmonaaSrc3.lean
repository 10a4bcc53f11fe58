import Derived.Test.YtlfnpnkpjdmonaaSrc2
set_option linter.unusedVariables false
set_option linter.unusedSimpArgs false
namespace Go.Proofs.Ytlfnpnkpjdmonaa
open Go.RowKit

theorem source_any (A : Option Addr) (c : Nat) (xs : List UInt8) (w : World) (hx : Rd w w.heap.size A (xs.map bv)) (hl : xs.length ≤ 1048576) :
    Calls Try.prog 123 #[.slice A xs.length c] w fun e w' => e = .returned (.pointer (some ⟨w.heap.size, 0, none⟩)) ∧ Sr w' w.heap.size 0 ∧ Below w.heap.size w w' := by
  have hb : ∀ s : Int, Below w.heap.size w (w.alloc (.cells #[.slice A xs.length c, .int .i64 0, .int .i64 s] 195)) := fun s => by repeat (first | exact Below.refl _ _ | assumption | refine Below.drew ?_ | refine below_drewN ?_ _ | refine Below.setCell ?_ (by first | exact Nat.le_refl _ | exact Below.size (by assumption) | (simp; done) | (simp; omega) | omega) _ | refine Below.alloc ?_ (by first | exact Nat.le_refl _ | exact Below.size (by assumption) | (simp; done) | (simp; omega) | omega) _)
  have HS : Hid (Sr (w.alloc (.cells #[.slice A xs.length c, .int .i64 0, .int .i64 ((xs.length : Int) % 1000)] 195)) w.heap.size 0) := ⟨A, c, xs, 0, _, heap_alloc_new _ _, hx.below (hb _), hl, by omega, by omega, by omega, by omega⟩
  have HB := Lib.hid (hb ((xs.length : Int) % 1000))
  clear hx hb
  go_enter Try.func123, Try.ntmps123
  go_wp2_with fail
  go_ret
  exact ⟨rfl, HS.out, HB.out⟩
def ToTexts (w : World) (e : Ending) (w' : World) : Prop := ∃ (v : Value) (xs : List (List UInt8)), e = .returned v ∧ xs.length ≤ 5 ∧ (∀ x ∈ xs, x ∈ drawnTexts) ∧ w'.ownsRow w.heap.size 9 1 v xs.length (xs.map sv) ∧ Below w.heap.size w w'
theorem textsOf_any (A : Option Addr) (c : Nat) (xs : List UInt8) (w : World) (hx : Rd w w.heap.size A (xs.map bv)) (hl : xs.length ≤ 1048576) :
    Calls Try.prog 47 #[.slice A xs.length c] w (ToTexts w) := by
  have HX := Lib.hid hx
  clear hx
  go_enter Try.func47, Try.ntmps47
  go_wp2_with fail
  refine (source_any A c xs _ HX.out hl).mono ?_
  rintro e w1 ⟨rfl, hs, hb⟩
  have hsz := hb.size
  have HS := Lib.hid hs
  clear hs
  go_wp2_with fail
  refine (texts_any w.heap.size 0 _ HS.out (by omega)).mono ?_
  rintro e w2 ⟨v, ys, rfl, hl2, hall, ho, hg⟩
  have HO := Lib.hid (And.intro hall (And.intro (own_mono ho hsz) (hb.trans (below_grown (some w.heap.size) hg hsz (fun k e => by injection e; omega)))))
  clear ho hg hb hall
  go_wp2_with fail
  go_ret
  exact ⟨v, ys, rfl, hl2, HO.out.1, HO.out.2.1, HO.out.2.2⟩
end Go.Proofs.Ytlfnpnkpjdmonaa
