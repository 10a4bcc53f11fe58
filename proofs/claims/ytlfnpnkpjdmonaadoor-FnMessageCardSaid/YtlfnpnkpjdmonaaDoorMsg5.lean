import Derived.Test.YtlfnpnkpjdmonaaDoorMsg4
set_option linter.unusedVariables false
set_option linter.unusedSimpArgs false
namespace Go.Proofs.YtlfnpnkpjdmonaaDoor
open Go.RowKit

/-! ### MessageOK of both sides -/
theorem msg_agg (n : Nat) (o : Option (List Pr × List UInt8)) : True := trivial
noncomputable def mokB (l : List UInt8) : Bool := (parI l).isSome
set_option maxRecDepth 100000 in
theorem implMessageOK_any (l : List UInt8) (w : World) (hm : ML w) (hl : l.length ≤ 1048576) :
    Calls Tryd.prog 10 #[.string (bs l)] w fun e w' => e = .returned (.bool (mokB l)) ∧ Below w.heap.size w w' := by
  have HC := Lib.hid (parse_any l w hm (by omega))
  have HR : Hid (mokB l = (parI l).isSome) := rfl
  generalize mokB l = r at HR ⊢
  generalize parI l = o at HC HR
  clear hm
  go_enter Tryd.func10, Tryd.ntmps10
  go_wp2_with fail
  refine HC.out.mono ?_
  rintro e w1 ⟨fs, b, A, c, rfl, hp, hz, ho, hb⟩
  rw [← HR.out]
  have HB := Lib.hid hb
  have hs := hb.size
  clear hp hz ho hb HC
  go_wp2_with fail
  go_ret
  exact ⟨rfl, HB.out.alloc hs _⟩
set_option maxRecDepth 100000 in
theorem specMessageOK_any (l : List UInt8) (w : World) (hl : l.length ≤ 1048576) :
    Calls Tryd.prog 9 #[.string (bs l)] w fun e w' => e = .returned (.bool (mokB l)) ∧ Below w.heap.size w w' := by
  have hs0 := bs_size l
  by_cases h1 : 65536 < l.length
  · have HN : Hid (mokB l = false) := by show (parI l).isSome = _; rw [parI, if_pos (by omega)]; rfl
    go_enter Tryd.func9, Tryd.ntmps9
    go_wp2
    go_ret
    exact ⟨by rw [HN.out]; rfl, Below.refl _ _⟩
  by_cases h2 : 85 < l.length
  · have HN : Hid (mokB l = false) := by show (parI l).isSome = _; rw [parI, if_pos h2]; rfl
    go_enter Tryd.func9, Tryd.ntmps9
    go_wp2
    go_ret
    exact ⟨by rw [HN.out]; rfl, Below.refl _ _⟩
  have HR : Hid (mokB l = (parM l).isSome) := by show (parI l).isSome = _; rw [parI, if_neg h2]
  have HC := Lib.hid (l08Parse_any l w hl)
  generalize mokB l = r at HR ⊢
  generalize parM l = o at HC HR
  go_enter Tryd.func9, Tryd.ntmps9
  go_wp2_with fail
  refine HC.out.mono ?_
  rintro e w1 ⟨fs, b, A, c, rfl, hp, hz, ho, hb⟩
  rw [← HR.out]
  have HB := Lib.hid hb
  have hs := hb.size
  clear hp hz ho hb HC
  go_wp2_with fail
  go_ret
  exact ⟨rfl, HB.out.alloc hs _⟩
end Go.Proofs.YtlfnpnkpjdmonaaDoor
