import Derived.Test.YtlfnpnkpjdmonaaCodec
set_option linter.unusedVariables false
set_option linter.unusedSimpArgs false
namespace Go.Proofs.Ytlfnpnkpjdmonaa
open Go.RowKit

/-! ### strings.Builder whose blocks all lie below C: what lies from C on is not touched -/
def BdU (B b C : Nat) (l : List UInt8) (w : World) : Prop := b < C ∧ B ≤ b ∧ ∃ p v, (p = .pointer none ∨ p = .pointer (some ⟨b, 0, none⟩)) ∧ w.heap[b]? = some (.cells #[p, v] 200 (0, 0)) ∧ w.ownsRow B 5 1 v (Lib.byteCells l).length (Lib.byteCells l) ∧ v.ownBlock ≠ some b ∧ ∀ k, v.ownBlock = some k → k < C
theorem Bd.u {B b : Nat} {l : List UInt8} {w : World} (h : Bd B b l w) : BdU B b w.heap.size l w := by
  have hlt := h.lt
  rcases h with ⟨hB, v, hv, ho, hne⟩ | ⟨hB, v, hv, ho, hne⟩
  · exact ⟨hlt, hB, _, v, .inl rfl, hv, ho, hne, fun k hk => (ho.lt k hk).2⟩
  · exact ⟨hlt, hB, _, v, .inr rfl, hv, ho, hne, fun k hk => (ho.lt k hk).2⟩
theorem BdU.below {B b C : Nat} {l : List UInt8} {w w1 : World} (h : BdU B b C l w) (hb : Below w.heap.size w w1) : BdU B b C l w1 := by
  obtain ⟨h1, h2, p, v, h3, h4, h5, h6, h7⟩ := h
  have hlt : b < w.heap.size := (Array.getElem?_eq_some_iff.1 h4).1
  exact ⟨h1, h2, p, v, h3, (hb.block b hlt).trans h4, own_below h5 hb, h6, h7⟩
theorem BdU.bd {B b C : Nat} {l : List UInt8} {w : World} (h : BdU B b C l w) : Bd B b l w := by
  obtain ⟨_, h2, p, v, h3, h4, h5, h6, _⟩ := h
  rcases h3 with rfl | rfl
  · exact .inl ⟨h2, v, h4, h5, h6⟩
  · exact .inr ⟨h2, v, h4, h5, h6⟩
/-- nothing from C on, of what was there, is touched -/
def Far (C : Nat) (w w' : World) : Prop := ∀ K, C ≤ K → K < w.heap.size → w'.heap[K]? = w.heap[K]?
theorem copyCheckU_any (B b C : Nat) (l : List UInt8) (w : World) (h : BdU B b C l w) :
    Calls Try.prog 239 #[.pointer (some ⟨b, 0, none⟩)] w fun e w' => e = .returned (.tuple #[]) ∧ (∃ v, w'.heap[b]? = some (.cells #[.pointer (some ⟨b, 0, none⟩), v] 200 (0, 0)) ∧ w'.ownsRow B 5 1 v (Lib.byteCells l).length (Lib.byteCells l) ∧ v.ownBlock ≠ some b ∧ ∀ k, v.ownBlock = some k → k < C) ∧ Below B w w' ∧ Far C w w' := by
  obtain ⟨h1, h2, p, v, h3, h4, h5, h6, h7⟩ := h
  rcases h3 with rfl | rfl
  · have hA : BAt B b (.pointer none) l w := ⟨h2, v, h4, h5, h6⟩
    refine (copyCheck_fresh b w hA.cell0 hA.shape hA.frozen0).mono ?_
    rintro e w' ⟨rfl, rfl⟩
    obtain ⟨_, v', hv', ho', hn'⟩ := hA.used (.pointer (some ⟨b, 0, none⟩))
    have hs := heap_setCell_same w b 0 #[.pointer none, v] 200 (.pointer (some ⟨b, 0, none⟩)) h4
    have e : v' = v := by
      rw [hs] at hv'
      simpa using hv'.symm
    subst e
    exact ⟨rfl, ⟨v', hv', ho', hn', h7⟩, (Below.refl B w).setCell (p := ⟨b, 0, none⟩) h2 _, fun K hK _ => Below.heap_setCell _ _ _ _ (by show K ≠ b; omega)⟩
  · have hA : BAt B b (.pointer (some ⟨b, 0, none⟩)) l w := ⟨h2, v, h4, h5, h6⟩
    refine (copyCheck_used b w hA.cell0).mono ?_
    rintro e w' ⟨rfl, rfl⟩
    exact ⟨rfl, ⟨v, h4, h5, h6, h7⟩, Below.refl B _, fun K _ _ => rfl⟩
set_option maxRecDepth 100000 in
theorem writeStringU_any (B b C : Nat) (l m : List UInt8) (w : World) (h : BdU B b C l w) (hlen : l.length + m.length ≤ 140737488355328) (hBw : B ≤ w.heap.size) :
    Calls Try.prog 197 #[.pointer (some ⟨b, 0, none⟩), .string (bs m)] w fun e w' => e = .returned (.tuple #[.int .i64 m.length, .nilIface]) ∧ Bd B b (l ++ m) w' ∧ Below B w w' ∧ Far C w w' := by
  obtain ⟨i0, hi, hz0, hz1, hz2⟩ := info_parts infoByte
  have HI := Lib.hid (And.intro hi (And.intro hz0 (And.intro hz1 hz2)))
  clear hi hz0 hz1 hz2
  have hbl : (Lib.byteCells l).length = l.length := Lib.byteCells_length l
  have hsm : (bs m).size = m.length := by simp [ByteArray.size]
  have HL := Lib.hid (And.intro hbl hsm)
  clear hbl hsm
  have hbC := h.1
  have hB := h.2.1
  go_enter Try.func197, Try.ntmps197
  go_wp2_with fail
  refine (copyCheckU_any B b C l _ h).mono ?_
  rintro e w1 ⟨rfl, ⟨v, hbk, hown, hne, hvC⟩, hb1, hf1⟩
  have c0 : w1.cell? ⟨b, 0, none⟩ = some (.pointer (some ⟨b, 0, none⟩)) := by rw [Lib.cell_of_heap hbk]; rfl
  have c1 : w1.cell? ⟨b, 1, none⟩ = some v := by rw [Lib.cell_of_heap hbk]; rfl
  rw [HL.out.1] at hown
  have HO := Lib.hid (And.intro hbk (And.intro hown hne))
  have HF1 := Lib.hid (And.intro hf1 hvC)
  clear hbk hown hne h hf1 hvC
  go_wp2_with (at_builtin; refine Lib.wpList_append_own_string _ rfl _ _ 39 9 rfl B 5 i0 Try.underlying39 Try.underlying9 HI.out.1 HI.out.2.1 HI.out.2.2.1 HI.out.2.2.2 _ _ _ rfl HO.out.2.1 (bs m) rfl ?c3 ?c4 ?c5 ?_)
  case c3 => rw [HL.out.2]; unfold maxLen; omega
  case c4 => rw [HL.out.2]; omega
  case c5 => have := hb1.size; omega
  intro v' w2 hown' hgrow _
  have hbk := HO.out.1
  have hown := HO.out.2.1
  have hne := HO.out.2.2
  have hlt : b < w1.heap.size := (Array.getElem?_eq_some_iff.1 hbk).1
  have hb2 : w2.heap[b]? = some (.cells #[.pointer (some ⟨b, 0, none⟩), v] 200 (0, 0)) := by
    rw [hgrow.block b hlt (fun e => hne e.symm)]
    exact hbk
  have d0 : w2.cell? ⟨b, 0, none⟩ = some (.pointer (some ⟨b, 0, none⟩)) := by rw [Lib.cell_of_heap hb2]; rfl
  have d1 : w2.cell? ⟨b, 1, none⟩ = some v := by rw [Lib.cell_of_heap hb2]; rfl
  have f1 : w2.frozen? ⟨b, 1, none⟩ = false := Lib.frozen_of_heap hb2 1
  obtain ⟨ao, n', cap, rfl⟩ : ∃ ao n' cap, v' = .slice ao n' cap := by
    rcases hown'.2 with ⟨hv, _⟩ | ⟨g, cap, cur, hv, _⟩
    · exact ⟨_, _, _, hv⟩
    · exact ⟨_, _, _, hv⟩
  have HP : Hid (Bd B b (l ++ m) (w2.setCell ⟨b, 1, none⟩ (.slice ao n' cap))) := by
    have e : Lib.byteCells (l ++ m) = Lib.byteCells l ++ Lib.strCells (bs m) := by simp [Lib.byteCells, Lib.strCells]
    refine .inr (Lib.BuilderAt.put (T := 200) (e := 5) hB hb2 ?_ neB)
    rw [e]
    simpa [HL.out.1, HL.out.2, Lib.strCells_length] using hown'
  have HQ : Hid (Below B w (w2.setCell ⟨b, 1, none⟩ (.slice ao n' cap))) := (hb1.grown hgrow (by have := hb1.size; omega) (fun k hk => (hown.lt k hk).1)).setCell (p := ⟨b, 1, none⟩) hB _
  have HR : Hid (Far C w (w2.setCell ⟨b, 1, none⟩ (.slice ao n' cap))) := fun K hK hKl => by
    rw [Below.heap_setCell _ _ _ _ (show K ≠ b by omega), hgrow.block K (Nat.lt_of_lt_of_le hKl hb1.size) (fun e => by have := HF1.out.2 K e.symm; omega)]
    exact HF1.out.1 K hK hKl
  clear hown hown' hgrow hbk hb2 hne HO
  go_wp2
  go_ret2
  exact ⟨by rw [← HL.out.2]; rfl, HP.out, HQ.out, HR.out⟩
end Go.Proofs.Ytlfnpnkpjdmonaa
