import Derived.Test.YtlfnpnkpjdmonaaBytes
import Derived.ProofKit
import Derived.OpenShut
import Derived.ChangeSlices
import Derived.SliceStrings
set_option linter.unusedVariables false
set_option linter.unusedSimpArgs false
namespace Go.Proofs.Ytlfnpnkpjdmonaa
open Go.ChangeShapes Go.WideShapes Go.ChangeAt Go.RowKit

/-! ### arguments, opened -/
theorem cellsU8 : Try.prog.cellsOf 5 = 1 := by kernel_rfl
theorem cellsStr : Try.prog.cellsOf 9 = 1 := by kernel_rfl
theorem byte_of_int {z : Int} (h : (Lit.int .u8 z).wf = true) : bv (UInt8.ofNat z.toNat) = .int .u8 z := by
  have := bounds_u8 h
  unfold bv
  congr 1
  have e : (UInt8.ofNat z.toNat).toNat = z.toNat := by simp; omega
  rw [e]
  omega
set_option maxRecDepth 100000 in
theorem open_bytes {H : Type} {enc : TypeId × Value → H} {W : World} {r : Reach} {b0 : Nat} {v : Value} {d : DataW H} {p : List MemPlace} (hv : Value.okWide Try.prog W r b0 39 v) (h : DataW.Trod enc Try.prog W 0 (fun _ => true) true 39 v d p) :
    ∃ (A : Option Addr) (c : Nat) (xs : List UInt8), v = .slice A xs.length c ∧ Rd W W.heap.size A (xs.map bv) ∧ xs.length ≤ maxLen := by
  obtain ⟨a0, len0, cap0, rfl⟩ := okWide_slice Try.underlying39 hv
  obtain ⟨fuel, hf⟩ := h
  rcases open_ints Try.underlying39 Try.underlying5 cellsU8 hf with ⟨hcs, _⟩ | ⟨a, len, cap, zs, hcs, _, hl, hm, hz, _, hcell, hwz⟩
  · simp only [Value.cells, List.cons.injEq, and_true] at hcs
    exact ⟨none, 0, [], hcs, Rd.nil _ _ _, Nat.zero_le _⟩
  · simp only [Value.cells, List.cons.injEq, and_true] at hcs
    simp only [if_true] at hz
    refine ⟨some a, cap, (zs.take len).map fun z => UInt8.ofNat z.toNat, ?_, fun hne => ?_, ?_⟩
    · rw [List.length_map, List.length_take, show min len zs.length = len from by omega]
      exact hcs
    · have hlen : 0 < len := by
        rcases Nat.eq_zero_or_pos len with h0 | h0
        · subst h0; simp at hne
        · exact h0
      have h0 := hcell 0 (by omega)
      have hb : a.block < W.heap.size := by
        have := block_lt_of_cell h0
        rwa [add_block] at this
      refine ⟨a, rfl, hb, fun j u hu => ?_⟩
      rw [List.map_map, List.getElem?_map] at hu
      rw [Option.map_eq_some_iff] at hu
      obtain ⟨z, hz1, rfl⟩ := hu
      have hj : j < zs.length := by
        have h1 := (List.getElem?_eq_some_iff.1 hz1).1
        rw [List.length_take] at h1
        omega
      rw [List.getElem?_take] at hz1
      split at hz1
      · have e : zs.getD j 0 = z := by simp [List.getD, hz1]
        rw [hcell j hj, e]
        show _ = some (bv (UInt8.ofNat z.toNat))
        rw [byte_of_int (hwz z (List.mem_of_getElem? hz1))]
      · cases hz1
    · rw [List.length_map, List.length_take]; omega
end Go.Proofs.Ytlfnpnkpjdmonaa
