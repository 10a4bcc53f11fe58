import Derived.Test.YtlfnpnkpjdmonaaPut
set_option linter.unusedVariables false
set_option linter.unusedSimpArgs false
namespace Go.Proofs.Ytlfnpnkpjdmonaa
open Go.RowKit

/-! ### slices.Delete of one pair of a row of the call's own -/
section
variable {P : Program}
theorem step_append_runI {ops : Array Oper} {o : Oper} {a : Act} {w : World} {K : Act → World → Prop} {Q : Exit → Act → World → Prop} {E : Prop}
    (hg : o.guard = none) (d x : Operand) (dT sT : TypeId) (hop : o.op = Op.call { callee := Callee.builtin Builtin.append, args := #[d, x], argTypes := #[dT, sT] })
    (v u : Value) (hd : a.eval d = v) (hx : a.eval x = u) {v' : Value} {w' : World} (hr : (Builtin.append_ #[dT, sT] o.type #[v, u]).run P w = .ok v' w') (hK : K (a.put o.dst v') w') :
    if Region.wanted o (yielded ops a.tmps) = true then Oper.wp P o a w K Q else E := by
  have hw : Region.wanted o (yielded ops a.tmps) = true := by simp [Region.wanted, hg]
  rw [if_pos hw]
  unfold Oper.wp execOp
  simp only [hop, resolve, invoke, builtin, Sem.run_bind, Sem.run_pure, Result.andThen_ok, List.map_toArray, List.map_cons, List.map_nil, hd, hx, hr]
  exact hK
theorem wpList_clear_runI (w : World) {ops : Array Oper} {rest : List Oper} {o : Oper} {a : Act} {Q : Exit → Act → World → Prop} (hgd : o.guard = none) (s : Operand) (t : TypeId)
    (ho : o.op = .call { callee := .builtin .clear, args := #[s], argTypes := #[t] }) (v : Value) (hs : a.eval s = v) {v' : Value} {w' : World}
    (hr : (Builtin.clear_ #[t] o.type #[v]).run P w = .ok v' w') (h : wpList P ops Q rest (a.put o.dst v') w') : wpList P ops Q (o :: rest) a w :=
  wpList_plain hgd fun K hK => by
    unfold Oper.wp execOp
    simp only [ho, resolve, invoke, builtin, Sem.run_bind, Sem.run_pure, Result.andThen_ok, List.map_toArray, List.map_cons, List.map_nil, hs, hr]
    exact hK _ _ h
end
def delP (l : List Pr) (i : Nat) : List Pr := l.take i ++ l.drop (i + 1)
theorem zero_cells1 : (Builtin.zeroCells (Value.agg #[.string ⟨#[]⟩, .string ⟨#[]⟩]).cells 1).toList = [.string ⟨#[]⟩, .string ⟨#[]⟩] := by
  simp [Builtin.zeroCells, Value.cells, List.range_succ]
set_option maxRecDepth 100000 in
set_option maxHeartbeats 1000000 in
theorem delete_any (base g cap m i : Nat) (l : List Pr) (w : World) (hn : m + 1 = l.length) (ho : w.ownsRow base 82 2 (.slice (some ⟨g, 0, none⟩) (m + 1) cap) (m + 1) (flat encP l)) (hi : i < m + 1) (hl : m ≤ 1048576) (hb : base ≤ w.heap.size) :
    Calls Try.prog 207 #[.slice (some ⟨g, 0, none⟩) (m + 1) cap, .int .i64 i, .int .i64 ((i : Int) + 1)] w (InsPost base (.slice (some ⟨g, 0, none⟩) (m + 1) cap) (delP l i) w) := by
  rcases ho.2 with ⟨h', _⟩ | ⟨g', cap', cur, h', hbg, hg, hnc, hcm, hcs, htake⟩
  · simp at h'
  simp only [Value.slice.injEq, Option.some.injEq, Addr.mk.injEq, and_true, true_and] at h'
  obtain ⟨rfl, rfl⟩ := h'
  obtain ⟨i0, hi0, hz0, hzs, hzb⟩ := info_parts infoPair
  have hc63 : cap ≤ 9223372036854775807 := by unfold maxLen at hcm; omega
  have hfl : (flat encP l).length = (m + 1) * 2 := by rw [flat_length encP_len, ← hn]
  have hcl : cur.toList.length = cap * 2 := by simpa using hcs
  have hcells : ∀ j u, (flat encP l)[j]? = some u → w.cell? ⟨g, j, none⟩ = some u := fun j u hu => by
    rw [cell_of_row w g j _ _ _ hg]
    rw [← htake, List.getElem?_take] at hu
    split at hu
    · simpa using hu
    · cases hu
  have hd : (flat encP (l.drop (i + 1))).length = (m - i) * 2 := by rw [flat_length encP_len, List.length_drop]; omega
  have htk : cur.toList.take (i * 2) = flat encP (l.take i) := by
    have e : cur.toList.take (i * 2) = (flat encP l).take (i * 2) := by rw [← htake, List.take_take, Nat.min_eq_left (by omega)]
    rw [e]
    exact flat_take l i (by omega)
  have hti : (flat encP (l.take i)).length = i * 2 := by rw [flat_length encP_len, List.length_take, Nat.min_eq_left (by omega)]
  have hdl : (delP l i).length = m := by simp only [delP, List.length_append, List.length_take, List.length_drop]; omega
  have hfd : (flat encP (delP l i)).length = m * 2 := by rw [flat_length encP_len, hdl]
  obtain ⟨C1, hC1⟩ : ∃ C1 : List Value, C1 = flat encP (delP l i) ++ cur.toList.drop (m * 2) := ⟨_, rfl⟩
  have hC1l : C1.length = cap * 2 := by rw [hC1]; simp only [List.length_append, List.length_drop, hcl, hfd]; omega
  have happ : ∀ ty ad mm c, mm = m - i → (∀ j u, (flat encP (l.drop (i + 1)))[j]? = some u → w.drew.cell? (Addr.add ad j) = some u) → (Builtin.append_ #[59, 59] ty #[.slice (some ⟨g, 0, none⟩) i cap, .slice (some ad) mm c]).run Try.prog w.drew = .ok (.slice (some ⟨g, 0, none⟩) m cap) (w.drew.setRow g C1.toArray) := fun ty ad mm c hmm hcc => by
    have h := run_append_room (P := Try.prog) w.drew 59 ty 82 i0 Try.underlying59 hi0 g i cap cur hg ad mm c (flat encP (l.drop (i + 1))) (by rw [hd, hzs, hmm]) hcc (fun u hu => pr_one _ u hu) (by omega) (by rw [hd, hzs]; omega)
    rw [h, hzs, hd, show i + mm = m from by omega, htk, hC1, show i * 2 + (m - i) * 2 = m * 2 from by omega]
    unfold delP
    rw [flat_append]
  have hg1 : (w.drew.setRow g C1.toArray).heap[g]? = some (.cells C1.toArray 82 (0, 0)) := setRow_heap w.drew g cur _ _ _ hg
  obtain ⟨C2, hC2⟩ : ∃ C2 : List Value, C2 = C1.take (m * 2) ++ [.string ⟨#[]⟩, .string ⟨#[]⟩] ++ C1.drop (m * 2 + 2) := ⟨_, rfl⟩
  have hclr : ∀ ty c, (Builtin.clear_ #[59] ty #[.slice (some ⟨g, m * 2, none⟩) 1 c]).run Try.prog (w.drew.setRow g C1.toArray) = .ok (.tuple #[]) (w.drew.setRow g C2.toArray) := fun ty c => by
    have h := run_clear_rowK (P := Try.prog) (w.drew.setRow g C1.toArray) 59 82 ty _ C1.toArray g (m * 2) 1 c 82 Try.underlying59 zeroPair (by rw [zero_cells1]; simp [Value.oneCell']) (by omega) hg1 (by rw [zero_cells1]; simp only [List.length_cons, List.length_nil, List.size_toArray, hC1l]; omega)
    rw [h, setRow_setRow, zero_cells1, hC2]
    rfl
  have HOWN : Hid ((w.drew.setRow g C2.toArray).ownsRow base 82 2 (.slice (some ⟨g, 0, none⟩) m cap) m (flat encP (delP l i))) := by
    refine ⟨hfd, .inr ⟨g, cap, _, rfl, hbg, setRow_heap w.drew g cur _ _ _ hg, by omega, hcm, ?_, ?_⟩⟩
    · simp only [List.size_toArray, hC2, List.length_append, List.length_take, List.length_drop, hC1l, List.length_cons, List.length_nil]
      omega
    · rw [hC2, List.toList_toArray, List.append_assoc, List.take_append_of_le_length (by rw [List.length_take, hC1l]; omega), List.take_take, Nat.min_self, hC1, List.take_append_of_le_length (by omega), List.take_of_length_le (by omega)]
  have HGR : Hid (w.grownBy (w.drew.setRow g C2.toArray) (some g)) := by
    have h := grown_setRow w.drew g C2.toArray
    exact ⟨h.os, h.tape, h.output, h.size, h.block⟩
  have HLEN := Lib.hid hdl
  have hie : ((i : Int) == (i : Int) + 1) = false := by rw [beq_eq_false_iff_ne]; omega
  have hcm' : ¬ (cap = m) := by omega
  have hci : ¬ (cap = i) := by omega
  have him : i ≤ m := by omega
  have hw1 : IntKind.i64.wrap ((i : Int) + 1) = (i : Int) + 1 := IntWalk.i64_in _ (by omega)
  have hw2 : (0 : Int) ≤ (i : Int) + 1 := by omega
  have hw3 : ((i : Int) + 1).toNat = i + 1 := by omega
  have hw4 : (i : Int) + 1 ≤ (m : Int) + 1 := by omega
  have hw5 : (i : Int) ≤ (m : Int) + 1 := by omega
  have hw6 : (i : Int) ≤ (m : Int) := by omega
  have hw7 : (i : Int) ≤ (i : Int) + 1 := by omega
  have hic : i ≤ cap := by omega
  have hw8 : (m : Int) + 1 ≤ (cap : Int) := by omega
  have hdrop : ∀ j u, (flat encP (l.drop (i + 1)))[j]? = some u → w.drew.cell? (Addr.add ⟨g, (i + 1) * 2, none⟩ j) = some u := fun j u hj => by
    rw [← flat_drop, List.getElem?_drop] at hj
    rw [addr_lit]
    exact hcells _ u hj
  by_cases hce : cap = i + 1
  · obtain rfl : i = m := by omega
    subst hce
    have he : flat encP (l.drop (i + 1)) = [] := List.eq_nil_of_length_eq_zero (by rw [hd]; omega)
    have HA : Hid (∀ ty c, (Builtin.append_ #[59, 59] ty #[.slice (some ⟨g, 0, none⟩) i (i + 1), .slice (some ⟨g, 0, none⟩) 0 c]).run Try.prog w.drew = .ok (.slice (some ⟨g, 0, none⟩) i (i + 1)) (w.drew.setRow g C1.toArray)) := fun ty c => happ ty _ 0 c (by omega) (fun j u hj => by rw [he] at hj; simp at hj)
    have HC := Lib.hid hclr
    clear hn ho hg hcs htake hi0 hz0 hzs hzb hfl hcl hcells hd htk hti hdl hfd hC1 hC1l happ hg1 hC2 hclr hdrop he
    go_enter Try.func207, Try.ntmps207
    go_wp2_with fail
    go_region_law (refine step_append_runI rfl _ _ 59 59 rfl (.slice (some ⟨g, 0, none⟩) i (i + 1)) (.slice (some ⟨g, 0, none⟩) 0 0) (by simp [Act.eval, Act.put]) (by simp [Act.eval, Act.put]) (HA.out _ _) ?_)
    go_wp2_with (refine wpList_clear_runI _ rfl _ 59 rfl _ rfl (HC.out _ _) ?_)
    go_ret
    exact ⟨_, rfl, by rw [HLEN.out]; exact HOWN.out, HGR.out⟩
  · have HA : Hid (∀ ty mm c, mm = m - i → (Builtin.append_ #[59, 59] ty #[.slice (some ⟨g, 0, none⟩) i cap, .slice (some ⟨g, (i + 1) * 2, none⟩) mm c]).run Try.prog w.drew = .ok (.slice (some ⟨g, 0, none⟩) m cap) (w.drew.setRow g C1.toArray)) := fun ty mm c hmm => happ ty _ mm c hmm hdrop
    have HC := Lib.hid hclr
    clear hn ho hg hcs htake hi0 hz0 hzs hzb hfl hcl hcells hd htk hti hdl hfd hC1 hC1l happ hg1 hC2 hclr hdrop
    go_enter Try.func207, Try.ntmps207
    go_wp2_with fail
    go_region_law (refine step_append_runI rfl _ _ 59 59 rfl (.slice (some ⟨g, 0, none⟩) i cap) (.slice (some ⟨g, (i + 1) * 2, none⟩) (m - i) (cap - (i + 1))) (by simp [Act.eval, Act.put]) (by simp [Act.eval, Act.put]) (HA.out _ _ _ (by omega)) ?_)
    go_wp2_with (refine wpList_clear_runI _ rfl _ 59 rfl _ rfl (HC.out _ _) ?_)
    go_ret
    exact ⟨_, rfl, by rw [HLEN.out]; exact HOWN.out, HGR.out⟩
end Go.Proofs.Ytlfnpnkpjdmonaa
