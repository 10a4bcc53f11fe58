import Derived.Test.YtlfnpnkpjdmonaaRowK
import Derived.Lib.AppendZerosOnto
set_option linter.unusedVariables false
set_option linter.unusedSimpArgs false
namespace Go.Proofs.Ytlfnpnkpjdmonaa
open Go.RowKit

/-! ### slices.Insert of one pair into a row of the call's own -/
theorem flat_take (l : List Pr) (i : Nat) (h : i ≤ l.length) : (flat encP l).take (i * 2) = flat encP (l.take i) := by
  have e := flat_append (enc := encP) (l.take i) (l.drop i)
  rw [List.take_append_drop] at e
  have hl : (flat encP (l.take i)).length = i * 2 := by rw [flat_length encP_len, List.length_take, Nat.min_eq_left h]
  rw [e, List.take_append_of_le_length (by omega), List.take_of_length_le (by omega)]
theorem flat_drop (l : List Pr) (i : Nat) : (flat encP l).drop (i * 2) = flat encP (l.drop i) := by
  rcases Nat.lt_or_ge l.length i with h | h
  · rw [List.drop_of_length_le (by rw [flat_length encP_len]; omega), List.drop_of_length_le (by omega)]
    rfl
  · have e := flat_append (enc := encP) (l.take i) (l.drop i)
    rw [List.take_append_drop] at e
    have hl : (flat encP (l.take i)).length = i * 2 := by rw [flat_length encP_len, List.length_take, Nat.min_eq_left h]
    rw [e, List.drop_append, List.drop_of_length_le (by omega), List.nil_append, hl, Nat.sub_self, List.drop_zero]
def insP (l : List Pr) (i : Nat) (x : Pr) : List Pr := l.take i ++ x :: l.drop i
def InsPost (base : Nat) (v : Value) (l : List Pr) (w : World) (e : Ending) (w' : World) : Prop := ∃ v', e = .returned v' ∧ w'.ownsRow base 82 2 v' l.length (flat encP l) ∧ w.grownBy w' v.ownBlock
set_option maxRecDepth 100000 in
theorem insert_end (base : Nat) (v : Value) (n vb : Nat) (l : List Pr) (x : Pr) (w : World) (hn : n = l.length) (ho : w.ownsRow base 82 2 v n (flat encP l)) (hv : w.heap[vb]? = some (.cells #[.string x.1, .string x.2] 82 (0, 0))) (hl : n ≤ 1048576) (hb : base ≤ w.heap.size) :
    Calls Try.prog 205 #[v, .int .i64 n, .slice (some ⟨vb, 0, none⟩) 1 1] w (InsPost base v (l ++ [x]) w) := by
  obtain ⟨A, c, rfl, hnc⟩ := own_form ho
  have HO := Lib.hid ho
  have HV : Hid (Rd w (vb + 1) (some ⟨vb, 0, none⟩) (encP x)) := fun _ => ⟨_, rfl, Nat.lt_succ_self _, fun j u hj => by
    have e2 : (⟨vb, 0, none⟩ : Addr).add j = ⟨vb, j, none⟩ := by
      unfold Addr.add
      by_cases h0 : j = 0 <;> simp [h0]
    rw [e2, cell_of_row w vb j _ _ _ hv]
    simpa [encP] using hj⟩
  have HN := Lib.hid hn
  clear ho hv hn
  by_cases hcn : c = n
  · subst hcn
    go_enter Try.func205, Try.ntmps205
    go_wp2_with (at_builtin; refine push_row elPair rfl _ _ rfl base _ c (flat encP l) rfl HO.out (vb + 1) (some ⟨vb, 0, none⟩) 1 1 (encP x) rfl HV.out rfl (by simp [encP, Value.oneCell']) (by simp only [maxLen]; omega) (by omega) hb (fun h => by cases h) ?_)
    intro v2 w2 hp
    have HP := Lib.hid hp
    clear hp
    go_wp2
    go_ret
    refine ⟨v2, rfl, ?_, HP.out.2⟩
    have h := HP.out.1
    rw [flat_append, List.length_append, ← HN.out]
    simpa [flat] using h
  · have hcn' : ¬ (c = n) := hcn
    go_enter Try.func205, Try.ntmps205
    go_wp2_with (at_builtin; refine push_row elPair rfl _ _ rfl base _ n (flat encP l) rfl HO.out (vb + 1) (some ⟨vb, 0, none⟩) 1 1 (encP x) rfl HV.out rfl (by simp [encP, Value.oneCell']) (by simp only [maxLen]; omega) (by omega) hb (fun h => by cases h) ?_)
    intro v2 w2 hp
    have HP := Lib.hid hp
    clear hp
    go_wp2
    go_ret
    refine ⟨v2, rfl, ?_, HP.out.2⟩
    have h := HP.out.1
    rw [flat_append, List.length_append, ← HN.out]
    simpa [flat] using h
set_option maxRecDepth 100000 in
set_option maxHeartbeats 1000000 in
theorem insert_shift (base g cap n i vb : Nat) (l : List Pr) (x : Pr) (w : World) (hn : n = l.length) (ho : w.ownsRow base 82 2 (.slice (some ⟨g, 0, none⟩) n cap) n (flat encP l)) (hv : w.heap[vb]? = some (.cells #[.string x.1, .string x.2] 82 (0, 0))) (hvg : vb ≠ g) (hi : i < n) (hroom : n + 1 ≤ cap) (hl : n ≤ 1048576) (hb : base ≤ w.heap.size) :
    Calls Try.prog 205 #[.slice (some ⟨g, 0, none⟩) n cap, .int .i64 i, .slice (some ⟨vb, 0, none⟩) 1 1] w (InsPost base (.slice (some ⟨g, 0, none⟩) n cap) (insP l i x) w) := by
  rcases ho.2 with ⟨h', _⟩ | ⟨g', cap', cur, h', hbg, hg, hnc, hcm, hcs, htake⟩
  · simp at h'
  simp only [Value.slice.injEq, Option.some.injEq, Addr.mk.injEq, and_true, true_and] at h'
  obtain ⟨rfl, rfl⟩ := h'
  have hne : ((i : Int) == (n : Int)) = false := by rw [beq_eq_false_iff_ne]; omega
  have hb2 : ¬ (cap = i) := by omega
  have hb4 : ¬ (cap = i + 1) := by omega
  have hin : i ≤ n := by omega
  have hc63 : cap ≤ 9223372036854775807 := by unfold maxLen at hcm; omega
  have hfl : (flat encP l).length = n * 2 := by rw [hn]; exact flat_length encP_len l
  have hcl : cur.toList.length = cap * 2 := by simpa using hcs
  have hcells : ∀ j u, (flat encP l)[j]? = some u → w.cell? ⟨g, j, none⟩ = some u := fun j u hu => by
    rw [cell_of_row w g j _ _ _ hg]
    rw [← htake, List.getElem?_take] at hu
    split at hu
    · simpa using hu
    · cases hu
  have hov : ∀ lb cb, (callFunc 241 #[.slice (some ⟨vb, 0, none⟩) 1 1, .slice (some ⟨g, (i + 1) * 2, none⟩) lb cb]).run Try.prog w = .ok (.value (.bool false)) w := fun lb cb => by
    rw [run_callFunc_extern Try.func241 (by kernel_rfl) (by kernel_rfl) (by kernel_rfl) (e := Extern.SlicesOverlaps.overlaps #[59, 59] #[4]) (by kernel_rfl),
      Lib.run_overlaps_apart w 59 4 82 Try.underlying59 2 Try.sizeOf82 ⟨vb, 0, none⟩ ⟨g, (i + 1) * 2, none⟩ 1 1 lb cb hvg 82 82 2 (cap * 2) (by simp [World.shape?, hv]) (by simp [World.shape?, hg, hcs]) (by omega) (frozen_of_row w vb 0 _ _ hv) (frozen_of_row w vb 2 _ _ hv)]
    rfl
  have hd : ((flat encP l).drop (i * 2)).length = (n - i) * 2 := by rw [List.length_drop, hfl]; omega
  obtain ⟨C1, hC1⟩ : ∃ C1 : List Value, C1 = cur.toList.take ((i + 1) * 2) ++ (flat encP l).drop (i * 2) ++ cur.toList.drop ((i + 1) * 2 + ((flat encP l).drop (i * 2)).length) := ⟨_, rfl⟩
  have hC1l : C1.length = cap * 2 := by rw [hC1]; simp only [List.length_append, List.length_take, List.length_drop, hcl, hd, hfl]; omega
  have hcp1 : ∀ ty dc sc, (Builtin.copy_ #[59, 59] ty #[.slice (some ⟨g, (i + 1) * 2, none⟩) (n - i) dc, .slice (some ⟨g, i * 2, none⟩) (n + 1 - i) sc]).run Try.prog w.drew = .ok (goInt ((n - i : Nat) : Int)) (w.drew.setRow g C1.toArray) := fun ty dc sc => by
    have h := run_copy_rowK (P := Try.prog) w.drew 59 59 ty 82 2 g ((i + 1) * 2) (n - i) dc ⟨g, i * 2, none⟩ (n + 1 - i) sc cur 82 ((flat encP l).drop (i * 2)) Try.underlying59 sizePair hg
      (by rw [hd]; simp only [Nat.min_def]; split <;> omega)
      (fun j u hj => by
        rw [List.getElem?_drop] at hj
        have h2 := hcells _ u hj
        have e2 : (⟨g, i * 2, none⟩ : Addr).add j = ⟨g, i * 2 + j, none⟩ := by
          unfold Addr.add
          by_cases h0 : j = 0 <;> simp [h0]
        rw [e2]
        exact h2)
      (by rw [hd, hcs]; omega) (fun u hu => pr_one l u (List.mem_of_mem_drop hu))
    rw [h, ← hC1, show Nat.min (n + 1 - i) (n - i) = n - i from by simp only [Nat.min_def]; split <;> omega]
  have hg1 : (w.drew.setRow g C1.toArray).heap[g]? = some (.cells C1.toArray 82 (0, 0)) := setRow_heap w.drew g cur _ _ _ hg
  have hv1 : (w.drew.setRow g C1.toArray).heap[vb]? = some (.cells #[.string x.1, .string x.2] 82 (0, 0)) := (setRow_other w.drew g vb _ hvg).trans hv
  have hC1r : C1.take (i * 2) = flat encP (l.take i) := by
    have e : cur.toList.take (i * 2) = (flat encP l).take (i * 2) := by rw [← htake, List.take_take, Nat.min_eq_left (by omega)]
    rw [hC1, List.append_assoc, List.take_append_of_le_length (by rw [List.length_take, hcl]; omega), List.take_take, Nat.min_eq_left (by omega), e]
    exact flat_take l i (by omega)
  have hC1d : C1.drop (i * 2 + 2) = flat encP (l.drop i) ++ cur.toList.drop ((n + 1) * 2) := by
    rw [hC1, List.append_assoc, List.drop_append, List.drop_of_length_le (by rw [List.length_take, hcl]; omega), List.nil_append, List.length_take, hcl, hd, show (i + 1) * 2 + (n - i) * 2 = (n + 1) * 2 from by omega, show i * 2 + 2 - min ((i + 1) * 2) (cap * 2) = 0 from by rw [Nat.min_eq_left (by omega)]; omega, List.drop_zero, flat_drop l i]
  obtain ⟨C2, hC2⟩ : ∃ C2 : List Value, C2 = C1.take (i * 2) ++ encP x ++ C1.drop (i * 2 + 2) := ⟨_, rfl⟩
  have hcp2 : ∀ ty dc, (Builtin.copy_ #[59, 59] ty #[.slice (some ⟨g, i * 2, none⟩) (n + 1 - i) dc, .slice (some ⟨vb, 0, none⟩) 1 1]).run Try.prog (w.drew.setRow g C1.toArray) = .ok (goInt ((1 : Nat) : Int)) (w.drew.setRow g C2.toArray) := fun ty dc => by
    have h := run_copy_rowK (P := Try.prog) (w.drew.setRow g C1.toArray) 59 59 ty 82 2 g (i * 2) (n + 1 - i) dc ⟨vb, 0, none⟩ 1 1 C1.toArray 82 (encP x) Try.underlying59 sizePair hg1
      (by show 2 = _; simp only [Nat.min_def]; split <;> omega)
      (fun j u hj => by
        have e2 : (⟨vb, 0, none⟩ : Addr).add j = ⟨vb, j, none⟩ := by
          unfold Addr.add
          by_cases h0 : j = 0 <;> simp [h0]
        rw [e2, cell_of_row _ vb j _ _ _ hv1]
        simpa [encP] using hj)
      (by show _ + 2 ≤ _; simp [hC1l]; omega) (by simp [encP, Value.oneCell'])
    rw [h, setRow_setRow, show Nat.min 1 (n + 1 - i) = 1 from by simp only [Nat.min_def]; split <;> omega, hC2]
    rfl
  have HOWN : Hid ((w.drew.setRow g C2.toArray).ownsRow base 82 2 (.slice (some ⟨g, 0, none⟩) (n + 1) cap) (n + 1) (flat encP (insP l i x))) := by
    have hlen : (flat encP (insP l i x)).length = (n + 1) * 2 := by
      rw [flat_length encP_len]
      simp only [insP, List.length_append, List.length_take, List.length_cons, List.length_drop]
      omega
    refine ⟨hlen, .inr ⟨g, cap, _, rfl, hbg, setRow_heap w.drew g cur _ _ _ hg, hroom, hcm, ?_, ?_⟩⟩
    · simp only [List.size_toArray, hC2, List.length_append, List.length_take, List.length_drop, hC1l]
      show _ + 2 + _ = _
      omega
    · have e : C2 = flat encP (insP l i x) ++ cur.toList.drop ((n + 1) * 2) := by
        rw [hC2, hC1r, hC1d, insP, flat_append, flat_cons]
        simp
      rw [e, List.toList_toArray, List.take_append_of_le_length (by omega), List.take_of_length_le (by omega)]
  have HGR : Hid (w.grownBy (w.drew.setRow g C2.toArray) (some g)) := by
    have h := grown_setRow w.drew g C2.toArray
    exact ⟨h.os, h.tape, h.output, h.size, h.block⟩
  have HLEN : Hid ((insP l i x).length = n + 1) := by
    show _ = _
    simp only [insP, List.length_append, List.length_take, List.length_cons, List.length_drop]
    omega
  have HN := Lib.hid hn
  have HCP := Lib.hid hcp1
  have HCQ := Lib.hid hcp2
  have hw1 : IntKind.i64.wrap ((i : Int) + 1) = (i : Int) + 1 := IntWalk.i64_in _ (by omega)
  have hw2 : (0 : Int) ≤ (i : Int) + 1 := by omega
  have hw3 : ((i : Int) + 1).toNat = i + 1 := by omega
  have hw4 : (i : Int) + 1 ≤ (n : Int) + 1 := by omega
  have hw5 : (i : Int) ≤ (n : Int) + 1 := by omega
  have hw6 : (i : Int) ≤ (n : Int) := by omega
  clear hC2
  clear hn hcp1 hcp2 hg1 hv1 hC1r hC1d hC1 hC1l hd hfl hcells htake hg hv hcl hcs
  go_enter Try.func205, Try.ntmps205
  go_wp2_with (simp only [hov])
  go_region_law (refine step_copy_runI rfl _ _ 59 59 rfl (.slice (some ⟨g, (i + 1) * 2, none⟩) (n - i) (cap - (i + 1))) (.slice (some ⟨g, i * 2, none⟩) (n + 1 - i) (cap - i)) (by simp [Act.eval, Act.put]) (by simp [Act.eval, Act.put]) (HCP.out _ _ _) ?_)
  go_wp2_with (refine wpList_copy_runI _ rfl _ _ 59 59 rfl _ _ rfl rfl (HCQ.out _ _) ?_)
  go_ret
  exact ⟨_, rfl, by rw [HLEN.out]; exact HOWN.out, HGR.out⟩
end Go.Proofs.Ytlfnpnkpjdmonaa
namespace Go.Proofs.Ytlfnpnkpjdmonaa
open Go.RowKit

theorem addr_lit (g o j : Nat) : (⟨g, o, none⟩ : Addr).add j = ⟨g, o + j, none⟩ := by
  unfold Addr.add
  by_cases h0 : j = 0 <;> simp [h0]
theorem zero_len (n : Nat) : (Builtin.zeroCells (Value.agg #[.string ⟨#[]⟩, .string ⟨#[]⟩]).cells n).size = n * 2 := by simp [Builtin.zeroCells, Value.cells]
set_option maxRecDepth 100000 in
set_option maxHeartbeats 1000000 in
theorem insert_grow (base g cap n i vb : Nat) (l : List Pr) (x : Pr) (w : World) (hn : n = l.length) (ho : w.ownsRow base 82 2 (.slice (some ⟨g, 0, none⟩) n cap) n (flat encP l)) (hv : w.heap[vb]? = some (.cells #[.string x.1, .string x.2] 82 (0, 0))) (hi : i < n) (hroom : cap < n + 1) (hl : n ≤ 1048576) (hb : base ≤ w.heap.size) :
    Calls Try.prog 205 #[.slice (some ⟨g, 0, none⟩) n cap, .int .i64 i, .slice (some ⟨vb, 0, none⟩) 1 1] w (InsPost base (.slice (some ⟨g, 0, none⟩) n cap) (insP l i x) w) := by
  obtain ⟨i0, hi0, hz0, hzs, hzb⟩ := info_parts infoPair
  have hcells := ho.cells (g := g) rfl
  have hgl : g < w.heap.size := (ho.lt g rfl).2
  have hnc : n ≤ cap := by
    obtain ⟨_, _, e, h⟩ := own_form ho
    cases e
    exact h
  have hvl : vb < w.heap.size := (Array.getElem?_eq_some_iff.1 hv).1
  have hfl : (flat encP l).length = n * 2 := by rw [hn]; exact flat_length encP_len l
  have hcell2 : ∀ j u, (flat encP l)[j]? = some u → w.cell? ⟨g, j, none⟩ = some u := fun j u hu => by
    have h := hcells j u hu
    rw [addr_lit, Nat.zero_add] at h
    exact h
  have hti : (flat encP (l.take i)).length = i * 2 := by rw [flat_length encP_len, List.length_take, Nat.min_eq_left (by omega)]
  have hold : (Builtin.firstCells i0.size i (.slice (some ⟨g, 0, none⟩) i cap)).run Try.prog w.drew = .ok (flat encP (l.take i)).toArray w.drew := by
    rw [hzs]
    exact run_firstCells_some w.drew 2 i ⟨g, 0, none⟩ i cap (flat encP (l.take i)) hti (fun j u hj => by
      rw [addr_lit, Nat.zero_add]
      rw [← flat_take l i (by omega), List.getElem?_take] at hj
      split at hj
      · exact hcell2 j u hj
      · cases hj)
  obtain ⟨G, hG⟩ : ∃ G, G = grownCap w (n + 1) cap 82 := ⟨_, rfl⟩
  have hGn : n + 1 ≤ G := by rw [hG]; exact grownCap_ge w _ _ _
  have hGm : G ≤ maxLen := by rw [hG]; exact grownCap_le_maxLen w (n + 1) cap _ (by unfold maxLen; omega)
  obtain ⟨ROW, hROW⟩ : ∃ ROW : Array Value, ROW = (flat encP (l.take i)).toArray ++ Builtin.zeroCells (Value.agg #[.string ⟨#[]⟩, .string ⟨#[]⟩]).cells (n + 1 - i) ++ Builtin.zeroCells (Value.agg #[.string ⟨#[]⟩, .string ⟨#[]⟩]).cells (G - (n + 1)) := ⟨_, rfl⟩
  have hRs : ROW.size = G * 2 := by
    rw [hROW]
    simp only [Array.size_append, List.size_toArray, hti, zero_len]
    omega
  have hRt : ROW.toList.take (i * 2) = flat encP (l.take i) := by
    rw [hROW, Array.toList_append, Array.toList_append, List.append_assoc, List.toList_toArray, List.take_append_of_le_length (by omega), List.take_of_length_le (by omega)]
  have hkk : (n : Int) + 1 - (i : Int) = ((n + 1 - i : Nat) : Int) := by omega
  obtain ⟨W1, hW1⟩ : ∃ W1, W1 = w.drew.alloc (.cells ROW 82) := ⟨_, rfl⟩
  have hrz : ∀ ty, (Builtin.append_ #[59, 3] ty #[.slice (some ⟨g, 0, none⟩) i cap, .int .i64 ((n : Int) + 1 - (i : Int))]).run Try.prog w = .ok (.slice (some ⟨w.heap.size, 0, none⟩) (n + 1) G) W1 := fun ty => by
    have h := Lib.run_append_grow_zeros w 59 3 ty 82 i0 _ .i64 .i64 Try.underlying59 Try.underlying3 hi0 hz0 (some ⟨g, 0, none⟩) i cap (flat encP (l.take i)) hold (n + 1 - i) (by omega) (by omega) (by omega) (by omega) (by rw [hzb]; omega) (by rw [hzb]; exact growslice_fits (by omega) (by omega))
    rw [show i + (n + 1 - i) = n + 1 from by omega, ← hG, ← hROW, ← hW1, ← hkk] at h
    exact h
  have hN1 : W1.heap[w.heap.size]? = some (.cells ROW 82 (0, 0)) := by rw [hW1]; exact heap_alloc_new w.drew _
  have hB1 : ∀ k, k < w.heap.size → W1.heap[k]? = w.heap[k]? := fun k hk => by rw [hW1]; exact Lib.alloc_old w.drew _ k hk
  have hS1 : W1.heap.size = w.heap.size + 1 := by rw [hW1]; simp
  have hT1 : W1.os = w.os ∧ W1.tape = w.tape ∧ W1.output = w.output := by rw [hW1]; exact ⟨rfl, rfl, rfl⟩
  have hg1 : ∀ j u, (flat encP l)[j]? = some u → W1.cell? ⟨g, j, none⟩ = some u := fun j u hu => (World.cell?_of_block (hB1 g hgl)).trans (hcell2 j u hu)
  have hv1 : W1.heap[vb]? = some (.cells #[.string x.1, .string x.2] 82 (0, 0)) := (hB1 vb hvl).trans hv
  obtain ⟨R1, hR1⟩ : ∃ R1 : List Value, R1 = ROW.toList.take (i * 2) ++ encP x ++ ROW.toList.drop (i * 2 + 2) := ⟨_, rfl⟩
  have hR1l : R1.length = G * 2 := by
    rw [hR1]
    simp only [List.length_append, List.length_take, List.length_drop, Array.length_toList, hRs]
    show _ + 2 + _ = _
    omega
  have hcpA : ∀ ty dc, (Builtin.copy_ #[59, 59] ty #[.slice (some ⟨w.heap.size, i * 2, none⟩) (n + 1 - i) dc, .slice (some ⟨vb, 0, none⟩) 1 1]).run Try.prog W1 = .ok (goInt ((1 : Nat) : Int)) (W1.setRow w.heap.size R1.toArray) := fun ty dc => by
    have h := run_copy_rowK (P := Try.prog) W1 59 59 ty 82 2 w.heap.size (i * 2) (n + 1 - i) dc ⟨vb, 0, none⟩ 1 1 ROW 82 (encP x) Try.underlying59 sizePair hN1
      (by show 2 = _; simp only [Nat.min_def]; split <;> omega)
      (fun j u hj => by
        rw [addr_lit, Nat.zero_add, cell_of_row _ vb j _ _ _ hv1]
        simpa [encP] using hj)
      (by show _ + 2 ≤ _; omega) (by simp [encP, Value.oneCell'])
    rw [h, show Nat.min 1 (n + 1 - i) = 1 from by simp only [Nat.min_def]; split <;> omega, hR1]
    rfl
  have hd : ((flat encP l).drop (i * 2)).length = (n - i) * 2 := by rw [List.length_drop, hfl]; omega
  have hN2 : (W1.setRow w.heap.size R1.toArray).drew.heap[w.heap.size]? = some (.cells R1.toArray 82 (0, 0)) := setRow_heap W1 _ _ _ _ _ hN1
  obtain ⟨R2, hR2⟩ : ∃ R2 : List Value, R2 = R1.take ((i + 1) * 2) ++ (flat encP l).drop (i * 2) ++ R1.drop ((i + 1) * 2 + (n - i) * 2) := ⟨_, rfl⟩
  have hcpB : ∀ ty dc sc, (Builtin.copy_ #[59, 59] ty #[.slice (some ⟨w.heap.size, (i + 1) * 2, none⟩) (n - i) dc, .slice (some ⟨g, i * 2, none⟩) (n - i) sc]).run Try.prog (W1.setRow w.heap.size R1.toArray).drew = .ok (goInt ((n - i : Nat) : Int)) ((W1.setRow w.heap.size R1.toArray).drew.setRow w.heap.size R2.toArray) := fun ty dc sc => by
    have h := run_copy_rowK (P := Try.prog) (W1.setRow w.heap.size R1.toArray).drew 59 59 ty 82 2 w.heap.size ((i + 1) * 2) (n - i) dc ⟨g, i * 2, none⟩ (n - i) sc R1.toArray 82 ((flat encP l).drop (i * 2)) Try.underlying59 sizePair hN2
      (by rw [hd]; simp)
      (fun j u hj => by
        rw [List.getElem?_drop] at hj
        rw [addr_lit]
        exact (World.cell?_of_block (w := W1) (setRow_other W1 _ g _ (by omega))).trans (hg1 _ u hj))
      (by rw [hd]; simp [hR1l]; omega) (fun u hu => pr_one l u (List.mem_of_mem_drop hu))
    rw [h, hd, ← hR2, show Nat.min (n - i) (n - i) = n - i from by simp]
  have HOWN : Hid (((W1.setRow w.heap.size R1.toArray).drew.setRow w.heap.size R2.toArray).ownsRow base 82 2 (.slice (some ⟨w.heap.size, 0, none⟩) (n + 1) G) (n + 1) (flat encP (insP l i x))) := by
    have hlen : (flat encP (insP l i x)).length = (n + 1) * 2 := by
      rw [flat_length encP_len]
      simp only [insP, List.length_append, List.length_take, List.length_cons, List.length_drop]
      omega
    have e : R2 = flat encP (insP l i x) ++ R1.drop ((i + 1) * 2 + (n - i) * 2) := by
      have e1 : R1.take ((i + 1) * 2) = flat encP (l.take i) ++ encP x := by
        rw [hR1, hRt, List.take_append_of_le_length (by rw [List.length_append, hti]; show _ ≤ _ + 2; omega), List.take_of_length_le (by rw [List.length_append, hti]; show _ + 2 ≤ _; omega)]
      rw [hR2, e1, flat_drop, insP, flat_append, flat_cons]
      simp
    refine ⟨hlen, .inr ⟨w.heap.size, G, _, rfl, hb, setRow_heap _ _ _ _ _ _ hN2, hGn, hGm, ?_, ?_⟩⟩
    · rw [e]
      simp only [List.size_toArray, List.length_append, List.length_drop, hlen, hR1l]
      omega
    · rw [e, List.toList_toArray, List.take_append_of_le_length (by omega), List.take_of_length_le (by omega)]
  have HGR : Hid (w.grownBy ((W1.setRow w.heap.size R1.toArray).drew.setRow w.heap.size R2.toArray) (some g)) := by
    refine ⟨hT1.1, hT1.2.1, hT1.2.2, ?_, fun k hk _ => ?_⟩
    · simp [hS1]
    · rw [setRow_other _ _ k _ (by omega)]
      exact (setRow_other W1 _ k _ (by omega)).trans (hB1 k hk)
  have HLEN : Hid ((insP l i x).length = n + 1) := by
    show _ = _
    simp only [insP, List.length_append, List.length_take, List.length_cons, List.length_drop]
    omega
  have hne : ((i : Int) == (n : Int)) = false := by rw [beq_eq_false_iff_ne]; omega
  have hc1 : ¬ (cap = i) := by omega
  have hc2 : ¬ (G = i) := by omega
  have hc3 : ¬ (G = i + 1) := by omega
  have hin : i ≤ n := by omega
  have hG63 : G ≤ 9223372036854775807 := by unfold maxLen at hGm; omega
  have hw1 : IntKind.i64.wrap ((i : Int) + 1) = (i : Int) + 1 := IntWalk.i64_in _ (by omega)
  have hw2 : (0 : Int) ≤ (i : Int) + 1 := by omega
  have hw3 : ((i : Int) + 1).toNat = i + 1 := by omega
  have hw4 : (i : Int) + 1 ≤ (n : Int) + 1 := by omega
  have hw5 : (i : Int) ≤ (n : Int) + 1 := by omega
  have hw6 : (i : Int) ≤ (n : Int) := by omega
  have HN := Lib.hid hn
  have HA := Lib.hid hcpA
  have HB := Lib.hid hcpB
  have HZ := Lib.hid hrz
  clear hn hcpA hcpB hrz hi0 hz0 hzs hzb hcells hfl hcell2 hti hold hG hROW hRs hRt hkk hW1 hN1 hB1 hS1 hT1 hg1 hv1 hR1 hR1l hd hN2 hR2 ho hv hGm
  go_enter Try.func205, Try.ntmps205
  go_wp2_with (first
    | (at_builtin; refine Lib.wpList_append_run _ rfl _ _ _ _ rfl _ _ rfl rfl _ _ (HZ.out _) ?_)
    | (refine wpList_copy_runI _ rfl _ _ 59 59 rfl _ _ rfl rfl (HA.out _ _) ?_))
  go_region_law (refine step_copy_runI rfl _ _ 59 59 rfl (.slice (some ⟨w.heap.size, (i + 1) * 2, none⟩) (n - i) (G - (i + 1))) (.slice (some ⟨g, i * 2, none⟩) (n - i) (cap - i)) (by simp [Act.eval, Act.put]) (by simp [Act.eval, Act.put]) (HB.out _ _ _) ?_)
  go_wp2_with fail
  go_ret
  exact ⟨_, rfl, by rw [HLEN.out]; exact HOWN.out, HGR.out⟩
end Go.Proofs.Ytlfnpnkpjdmonaa
