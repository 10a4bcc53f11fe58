import Derived.Test.YtlfnpnkpjdmonaaInsert
import Derived.Lib.AppendZerosOnto
set_option linter.unusedVariables false
set_option linter.unusedSimpArgs false
namespace Go.Proofs.Ytlfnpnkpjdmonaa
open Go.RowKit

theorem addr_lit (g o j : Nat) : (⟨g, o, none⟩ : Addr).add j = ⟨g, o + j, none⟩ := by
  unfold Addr.add
  by_cases h0 : j = 0 <;> simp [h0]
theorem zero_len (n : Nat) : (Builtin.zeroCells (Value.agg #[.string ⟨#[]⟩, .string ⟨#[]⟩]).cells n).size = n * 2 := by simp [Builtin.zeroCells, Value.cells]
set_option maxRecDepth 100000 in
set_option maxHeartbeats 1000000 in
theorem insert_grow (base g cap n i vb : Nat) (l : List Pr) (x : Pr) (w : World) (hn : n = l.length) (ho : w.ownsRow base 82 2 (.slice (some ⟨g, 0, none⟩) n cap) n (flat encP l)) (hv : w.heap[vb]? = some (.cells #[.string x.1, .string x.2] 82 (0, 0))) (hi : i < n) (hroom : cap < n + 1) (hl : n ≤ 1048576) (hb : base ≤ w.heap.size) :
    Calls Try.prog 205 #[.slice (some ⟨g, 0, none⟩) n cap, .int .i64 i, .slice (some ⟨vb, 0, none⟩) 1 1] w (InsPost base (.slice (some ⟨g, 0, none⟩) n cap) (insP l i x) w) := by
  obtain ⟨i0, hi0, hz0, hzs, hzb⟩ := info_parts infoPair
  have hcells := ho.cells (g := g) rfl
  have hgl : g < w.heap.size := (ho.lt g rfl).2
  have hnc : n ≤ cap := by
    obtain ⟨_, _, e, h⟩ := own_form ho
    cases e
    exact h
  have hvl : vb < w.heap.size := (Array.getElem?_eq_some_iff.1 hv).1
  have hfl : (flat encP l).length = n * 2 := by rw [hn]; exact flat_length encP_len l
  have hcell2 : ∀ j u, (flat encP l)[j]? = some u → w.cell? ⟨g, j, none⟩ = some u := fun j u hu => by
    have h := hcells j u hu
    rw [addr_lit, Nat.zero_add] at h
    exact h
  have hti : (flat encP (l.take i)).length = i * 2 := by rw [flat_length encP_len, List.length_take, Nat.min_eq_left (by omega)]
  have hold : (Builtin.firstCells i0.size i (.slice (some ⟨g, 0, none⟩) i cap)).run Try.prog w.drew = .ok (flat encP (l.take i)).toArray w.drew := by
    rw [hzs]
    exact run_firstCells_some w.drew 2 i ⟨g, 0, none⟩ i cap (flat encP (l.take i)) hti (fun j u hj => by
      rw [addr_lit, Nat.zero_add]
      rw [← flat_take l i (by omega), List.getElem?_take] at hj
      split at hj
      · exact hcell2 j u hj
      · cases hj)
  obtain ⟨G, hG⟩ : ∃ G, G = grownCap w (n + 1) cap 82 := ⟨_, rfl⟩
  have hGn : n + 1 ≤ G := by rw [hG]; exact grownCap_ge w _ _ _
  have hGm : G ≤ maxLen := by rw [hG]; exact grownCap_le_maxLen w (n + 1) cap _ (by unfold maxLen; omega)
  obtain ⟨ROW, hROW⟩ : ∃ ROW : Array Value, ROW = (flat encP (l.take i)).toArray ++ Builtin.zeroCells (Value.agg #[.string ⟨#[]⟩, .string ⟨#[]⟩]).cells (n + 1 - i) ++ Builtin.zeroCells (Value.agg #[.string ⟨#[]⟩, .string ⟨#[]⟩]).cells (G - (n + 1)) := ⟨_, rfl⟩
  have hRs : ROW.size = G * 2 := by
    rw [hROW]
    simp only [Array.size_append, List.size_toArray, hti, zero_len]
    omega
  have hRt : ROW.toList.take (i * 2) = flat encP (l.take i) := by
    rw [hROW, Array.toList_append, Array.toList_append, List.append_assoc, List.toList_toArray, List.take_append_of_le_length (by omega), List.take_of_length_le (by omega)]
  have hkk : (n : Int) + 1 - (i : Int) = ((n + 1 - i : Nat) : Int) := by omega
  obtain ⟨W1, hW1⟩ : ∃ W1, W1 = w.drew.alloc (.cells ROW 82) := ⟨_, rfl⟩
  have hrz : ∀ ty, (Builtin.append_ #[59, 3] ty #[.slice (some ⟨g, 0, none⟩) i cap, .int .i64 ((n : Int) + 1 - (i : Int))]).run Try.prog w = .ok (.slice (some ⟨w.heap.size, 0, none⟩) (n + 1) G) W1 := fun ty => by
    have h := Lib.run_append_grow_zeros w 59 3 ty 82 i0 _ .i64 .i64 Try.underlying59 Try.underlying3 hi0 hz0 (some ⟨g, 0, none⟩) i cap (flat encP (l.take i)) hold (n + 1 - i) (by omega) (by omega) (by omega) (by omega) (by rw [hzb]; omega) (by rw [hzb]; exact growslice_fits (by omega) (by omega))
    rw [show i + (n + 1 - i) = n + 1 from by omega, ← hG, ← hROW, ← hW1, ← hkk] at h
    exact h
  have hN1 : W1.heap[w.heap.size]? = some (.cells ROW 82 (0, 0)) := by rw [hW1]; exact heap_alloc_new w.drew _
  have hB1 : ∀ k, k < w.heap.size → W1.heap[k]? = w.heap[k]? := fun k hk => by rw [hW1]; exact Lib.alloc_old w.drew _ k hk
  have hS1 : W1.heap.size = w.heap.size + 1 := by rw [hW1]; simp
  have hT1 : W1.os = w.os ∧ W1.tape = w.tape ∧ W1.output = w.output := by rw [hW1]; exact ⟨rfl, rfl, rfl⟩
  have hg1 : ∀ j u, (flat encP l)[j]? = some u → W1.cell? ⟨g, j, none⟩ = some u := fun j u hu => (World.cell?_of_block (hB1 g hgl)).trans (hcell2 j u hu)
  have hv1 : W1.heap[vb]? = some (.cells #[.string x.1, .string x.2] 82 (0, 0)) := (hB1 vb hvl).trans hv
  obtain ⟨R1, hR1⟩ : ∃ R1 : List Value, R1 = ROW.toList.take (i * 2) ++ encP x ++ ROW.toList.drop (i * 2 + 2) := ⟨_, rfl⟩
  have hR1l : R1.length = G * 2 := by
    rw [hR1]
    simp only [List.length_append, List.length_take, List.length_drop, Array.length_toList, hRs]
    show _ + 2 + _ = _
    omega
  have hcpA : ∀ ty dc, (Builtin.copy_ #[59, 59] ty #[.slice (some ⟨w.heap.size, i * 2, none⟩) (n + 1 - i) dc, .slice (some ⟨vb, 0, none⟩) 1 1]).run Try.prog W1 = .ok (goInt ((1 : Nat) : Int)) (W1.setRow w.heap.size R1.toArray) := fun ty dc => by
    have h := run_copy_rowK (P := Try.prog) W1 59 59 ty 82 2 w.heap.size (i * 2) (n + 1 - i) dc ⟨vb, 0, none⟩ 1 1 ROW 82 (encP x) Try.underlying59 sizePair hN1
      (by show 2 = _; simp only [Nat.min_def]; split <;> omega)
      (fun j u hj => by
        rw [addr_lit, Nat.zero_add, cell_of_row _ vb j _ _ _ hv1]
        simpa [encP] using hj)
      (by show _ + 2 ≤ _; omega) (by simp [encP, Value.oneCell'])
    rw [h, show Nat.min 1 (n + 1 - i) = 1 from by simp only [Nat.min_def]; split <;> omega, hR1]
    rfl
  have hd : ((flat encP l).drop (i * 2)).length = (n - i) * 2 := by rw [List.length_drop, hfl]; omega
  have hN2 : (W1.setRow w.heap.size R1.toArray).drew.heap[w.heap.size]? = some (.cells R1.toArray 82 (0, 0)) := setRow_heap W1 _ _ _ _ _ hN1
  obtain ⟨R2, hR2⟩ : ∃ R2 : List Value, R2 = R1.take ((i + 1) * 2) ++ (flat encP l).drop (i * 2) ++ R1.drop ((i + 1) * 2 + (n - i) * 2) := ⟨_, rfl⟩
  have hcpB : ∀ ty dc sc, (Builtin.copy_ #[59, 59] ty #[.slice (some ⟨w.heap.size, (i + 1) * 2, none⟩) (n - i) dc, .slice (some ⟨g, i * 2, none⟩) (n - i) sc]).run Try.prog (W1.setRow w.heap.size R1.toArray).drew = .ok (goInt ((n - i : Nat) : Int)) ((W1.setRow w.heap.size R1.toArray).drew.setRow w.heap.size R2.toArray) := fun ty dc sc => by
    have h := run_copy_rowK (P := Try.prog) (W1.setRow w.heap.size R1.toArray).drew 59 59 ty 82 2 w.heap.size ((i + 1) * 2) (n - i) dc ⟨g, i * 2, none⟩ (n - i) sc R1.toArray 82 ((flat encP l).drop (i * 2)) Try.underlying59 sizePair hN2
      (by rw [hd]; simp)
      (fun j u hj => by
        rw [List.getElem?_drop] at hj
        rw [addr_lit]
        exact (World.cell?_of_block (w := W1) (setRow_other W1 _ g _ (by omega))).trans (hg1 _ u hj))
      (by rw [hd]; simp [hR1l]; omega) (fun u hu => pr_one l u (List.mem_of_mem_drop hu))
    rw [h, hd, ← hR2, show Nat.min (n - i) (n - i) = n - i from by simp]
  have HOWN : Hid (((W1.setRow w.heap.size R1.toArray).drew.setRow w.heap.size R2.toArray).ownsRow base 82 2 (.slice (some ⟨w.heap.size, 0, none⟩) (n + 1) G) (n + 1) (flat encP (insP l i x))) := by
    have hlen : (flat encP (insP l i x)).length = (n + 1) * 2 := by
      rw [flat_length encP_len]
      simp only [insP, List.length_append, List.length_take, List.length_cons, List.length_drop]
      omega
    have e : R2 = flat encP (insP l i x) ++ R1.drop ((i + 1) * 2 + (n - i) * 2) := by
      have e1 : R1.take ((i + 1) * 2) = flat encP (l.take i) ++ encP x := by
        rw [hR1, hRt, List.take_append_of_le_length (by rw [List.length_append, hti]; show _ ≤ _ + 2; omega), List.take_of_length_le (by rw [List.length_append, hti]; show _ + 2 ≤ _; omega)]
      rw [hR2, e1, flat_drop, insP, flat_append, flat_cons]
      simp
    refine ⟨hlen, .inr ⟨w.heap.size, G, _, rfl, hb, setRow_heap _ _ _ _ _ _ hN2, hGn, hGm, ?_, ?_⟩⟩
    · rw [e]
      simp only [List.size_toArray, List.length_append, List.length_drop, hlen, hR1l]
      omega
    · rw [e, List.toList_toArray, List.take_append_of_le_length (by omega), List.take_of_length_le (by omega)]
  have HGR : Hid (w.grownBy ((W1.setRow w.heap.size R1.toArray).drew.setRow w.heap.size R2.toArray) (some g)) := by
    refine ⟨hT1.1, hT1.2.1, hT1.2.2, ?_, fun k hk _ => ?_⟩
    · simp [hS1]
    · rw [setRow_other _ _ k _ (by omega)]
      exact (setRow_other W1 _ k _ (by omega)).trans (hB1 k hk)
  have HLEN : Hid ((insP l i x).length = n + 1) := by
    show _ = _
    simp only [insP, List.length_append, List.length_take, List.length_cons, List.length_drop]
    omega
  have hne : ((i : Int) == (n : Int)) = false := by rw [beq_eq_false_iff_ne]; omega
  have hc1 : ¬ (cap = i) := by omega
  have hc2 : ¬ (G = i) := by omega
  have hc3 : ¬ (G = i + 1) := by omega
  have hin : i ≤ n := by omega
  have hG63 : G ≤ 9223372036854775807 := by unfold maxLen at hGm; omega
  have hw1 : IntKind.i64.wrap ((i : Int) + 1) = (i : Int) + 1 := IntWalk.i64_in _ (by omega)
  have hw2 : (0 : Int) ≤ (i : Int) + 1 := by omega
  have hw3 : ((i : Int) + 1).toNat = i + 1 := by omega
  have hw4 : (i : Int) + 1 ≤ (n : Int) + 1 := by omega
  have hw5 : (i : Int) ≤ (n : Int) + 1 := by omega
  have hw6 : (i : Int) ≤ (n : Int) := by omega
  have HN := Lib.hid hn
  have HA := Lib.hid hcpA
  have HB := Lib.hid hcpB
  have HZ := Lib.hid hrz
  clear hn hcpA hcpB hrz hi0 hz0 hzs hzb hcells hfl hcell2 hti hold hG hROW hRs hRt hkk hW1 hN1 hB1 hS1 hT1 hg1 hv1 hR1 hR1l hd hN2 hR2 ho hv hGm
  go_enter Try.func205, Try.ntmps205
  go_wp2_with (first
    | (at_builtin; refine Lib.wpList_append_run _ rfl _ _ _ _ rfl _ _ rfl rfl _ _ (HZ.out _) ?_)
    | (refine wpList_copy_runI _ rfl _ _ 59 59 rfl _ _ rfl rfl (HA.out _ _) ?_))
  go_region_law (refine step_copy_runI rfl _ _ 59 59 rfl (.slice (some ⟨w.heap.size, (i + 1) * 2, none⟩) (n - i) (G - (i + 1))) (.slice (some ⟨g, i * 2, none⟩) (n - i) (cap - i)) (by simp [Act.eval, Act.put]) (by simp [Act.eval, Act.put]) (HB.out _ _ _) ?_)
  go_wp2_with fail
  go_ret
  exact ⟨_, rfl, by rw [HLEN.out]; exact HOWN.out, HGR.out⟩
end Go.Proofs.Ytlfnpnkpjdmonaa
