import Derived.Test.YtlfnpnkpjdmonaaPairClone
import Derived.Lib.SliceRun
import Derived.Lib.AppendZeros
import Derived.Lib.JoinLaws
import Derived.Lib.Overlaps
import Derived.Deep.RegionLaw
import Derived.Lib.AppendZerosOnto
set_option linter.unusedVariables false
set_option linter.unusedSimpArgs false
namespace Go.Proofs.Ytlfnpnkpjdmonaa
open Go.RowKit

/-! ### copy, clear, append of empty ones, at elements of several cells -/
section
variable {P : Program}
theorem run_copy_rowK (w : World) (dT sT ty elem : TypeId) (k g o dLen dCap : Nat) (a : Addr) (sLen sCap : Nat) (cur : Array Value) (t : TypeId) (cs : List Value)
    (hu : P.underlying dT = some (.slice elem)) (hs : (P.info? elem).map (·.size) = some k)
    (hg : w.heap[g]? = some (.cells cur t (0, 0))) (hn : cs.length = Nat.min sLen dLen * k)
    (hsrc : ∀ j v, cs[j]? = some v → w.cell? (a.add j) = some v) (hfit : o + cs.length ≤ cur.size) (h1 : ∀ v ∈ cs, v.oneCell' = true) :
    (Builtin.copy_ #[dT, sT] ty #[.slice (some ⟨g, o, none⟩) dLen dCap, .slice (some a) sLen sCap]).run P w =
      .ok (goInt (Nat.min sLen dLen)) (w.setRow g (cur.toList.take o ++ cs ++ cur.toList.drop (o + cs.length)).toArray) := by
  have hl := run_loadCells_list (P := P) w a cs hsrc
  have hst := run_storeCells_at P g o t cs 0 cur w hg (by simpa using hfit) h1
  cases hq : P.info? elem with
  | none => simp [hq] at hs
  | some i =>
    have hi : i.size = k := by simpa [hq] using hs
    simp [Builtin.copy_, run_underlying hu, Builtin.lenOf, Builtin.firstCells, sizeOf, typeInfo, hq, hi, ← hn, hl, hst]
theorem wp_copy_runI (w : World) {o : Oper} {a : Act} {K : Act → World → Prop} {Q : Exit → Act → World → Prop} (d s : Operand) (t t' : TypeId)
    (ho : o.op = .call { callee := .builtin .copy, args := #[d, s], argTypes := #[t, t'] }) (v u : Value) (hd : a.eval d = v) (hs : a.eval s = u) {v' : Value} {w' : World}
    (hr : (Builtin.copy_ #[t, t'] o.type #[v, u]).run P w = .ok v' w') (h : K (a.put o.dst v') w') : o.wp P a w K Q := by
  unfold Oper.wp execOp
  simp only [ho, resolve, invoke, builtin, Sem.run_bind, Sem.run_pure, Result.andThen_ok, List.map_toArray, List.map_cons, List.map_nil, hd, hs, hr]
  exact h
theorem wpList_copy_runI (w : World) {ops : Array Oper} {rest : List Oper} {o : Oper} {a : Act} {Q : Exit → Act → World → Prop} (hgd : o.guard = none) (d s : Operand) (t t' : TypeId)
    (ho : o.op = .call { callee := .builtin .copy, args := #[d, s], argTypes := #[t, t'] }) (v u : Value) (hd : a.eval d = v) (hs : a.eval s = u) {v' : Value} {w' : World}
    (hr : (Builtin.copy_ #[t, t'] o.type #[v, u]).run P w = .ok v' w') (h : wpList P ops Q rest (a.put o.dst v') w') : wpList P ops Q (o :: rest) a w :=
  wpList_plain hgd fun _ hK => wp_copy_runI w d s t t' ho v u hd hs hr (hK _ _ h)
theorem step_copy_runI {ops : Array Oper} {o : Oper} {a : Act} {w : World} {K : Act → World → Prop} {Q : Exit → Act → World → Prop} {E : Prop}
    (hg : o.guard = none) (d x : Operand) (dT sT : TypeId) (hop : o.op = Op.call { callee := Callee.builtin Builtin.copy, args := #[d, x], argTypes := #[dT, sT] })
    (v u : Value) (hd : a.eval d = v) (hx : a.eval x = u) {v' : Value} {w' : World} (hr : (Builtin.copy_ #[dT, sT] o.type #[v, u]).run P w = .ok v' w') (hK : K (a.put o.dst v') w') :
    if Region.wanted o (yielded ops a.tmps) = true then Oper.wp P o a w K Q else E := by
  have hw : Region.wanted o (yielded ops a.tmps) = true := by simp [Region.wanted, hg]
  rw [if_pos hw]
  exact wp_copy_runI w d x dT sT hop v u hd hx hr hK
theorem run_clear_rowK (w : World) (t e ty : TypeId) (z : Value) (cur : Array Value) (g o n c : Nat) (T : TypeId) (ht : P.underlying t = some (.slice e)) (hv : ∀ w, (zeroValue e).run P w = .ok z w) (h1 : ∀ u ∈ (Builtin.zeroCells z.cells n).toList, u.oneCell' = true) (hn : 0 < n)
    (hg : w.heap[g]? = some (.cells cur T (0, 0))) (hfit : o + (Builtin.zeroCells z.cells n).toList.length ≤ cur.size) :
    (Builtin.clear_ #[t] ty #[.slice (some ⟨g, o, none⟩) n c]).run P w = .ok (.tuple #[]) (w.setRow g (cur.toList.take o ++ (Builtin.zeroCells z.cells n).toList ++ cur.toList.drop (o + (Builtin.zeroCells z.cells n).toList.length)).toArray) := by
  have hst := run_storeCells_at P g o T (Builtin.zeroCells z.cells n).toList 0 cur w hg (by simpa using hfit) h1
  obtain ⟨m, rfl⟩ : ∃ m, n = m + 1 := ⟨n - 1, by omega⟩
  simp only [Nat.add_zero] at hst
  simp [Builtin.clear_, run_underlying ht, hv, hst]
end
theorem grown_setRow (w : World) (g : Nat) (cs : Array Value) : w.grownBy (w.setRow g cs) (some g) := ⟨rfl, rfl, rfl, by simp, fun k _ hk => setRow_other w g k cs (fun e => hk (by rw [e]))⟩
theorem sizePair : (Try.prog.info? 82).map (·.size) = some 2 := by
  obtain ⟨i, hi, _, hs, _⟩ := info_parts infoPair
  rw [hi]
  simp [hs]
theorem zeroPair (w : World) : (zeroValue 82).run Try.prog w = .ok (.agg #[.string ⟨#[]⟩, .string ⟨#[]⟩]) w := by kernel_rfl
end Go.Proofs.Ytlfnpnkpjdmonaa
namespace Go.Proofs.Ytlfnpnkpjdmonaa
open Go.RowKit

/-! ### slices.Insert of one pair into a row of the call's own -/
theorem flat_take (l : List Pr) (i : Nat) (h : i ≤ l.length) : (flat encP l).take (i * 2) = flat encP (l.take i) := by
  have e := flat_append (enc := encP) (l.take i) (l.drop i)
  rw [List.take_append_drop] at e
  have hl : (flat encP (l.take i)).length = i * 2 := by rw [flat_length encP_len, List.length_take, Nat.min_eq_left h]
  rw [e, List.take_append_of_le_length (by omega), List.take_of_length_le (by omega)]
theorem flat_drop (l : List Pr) (i : Nat) : (flat encP l).drop (i * 2) = flat encP (l.drop i) := by
  rcases Nat.lt_or_ge l.length i with h | h
  · rw [List.drop_of_length_le (by rw [flat_length encP_len]; omega), List.drop_of_length_le (by omega)]
    rfl
  · have e := flat_append (enc := encP) (l.take i) (l.drop i)
    rw [List.take_append_drop] at e
    have hl : (flat encP (l.take i)).length = i * 2 := by rw [flat_length encP_len, List.length_take, Nat.min_eq_left h]
    rw [e, List.drop_append, List.drop_of_length_le (by omega), List.nil_append, hl, Nat.sub_self, List.drop_zero]
def insP (l : List Pr) (i : Nat) (x : Pr) : List Pr := l.take i ++ x :: l.drop i
def InsPost (base : Nat) (v : Value) (l : List Pr) (w : World) (e : Ending) (w' : World) : Prop := ∃ v', e = .returned v' ∧ w'.ownsRow base 82 2 v' l.length (flat encP l) ∧ w.grownBy w' v.ownBlock
set_option maxRecDepth 100000 in
theorem insert_end (base : Nat) (v : Value) (n vb : Nat) (l : List Pr) (x : Pr) (w : World) (hn : n = l.length) (ho : w.ownsRow base 82 2 v n (flat encP l)) (hv : w.heap[vb]? = some (.cells #[.string x.1, .string x.2] 82 (0, 0))) (hl : n ≤ 1048576) (hb : base ≤ w.heap.size) :
    Calls Try.prog 205 #[v, .int .i64 n, .slice (some ⟨vb, 0, none⟩) 1 1] w (InsPost base v (l ++ [x]) w) := by
  obtain ⟨A, c, rfl, hnc⟩ := own_form ho
  have HO := Lib.hid ho
  have HV : Hid (Rd w (vb + 1) (some ⟨vb, 0, none⟩) (encP x)) := fun _ => ⟨_, rfl, Nat.lt_succ_self _, fun j u hj => by
    have e2 : (⟨vb, 0, none⟩ : Addr).add j = ⟨vb, j, none⟩ := by
      unfold Addr.add
      by_cases h0 : j = 0 <;> simp [h0]
    rw [e2, cell_of_row w vb j _ _ _ hv]
    simpa [encP] using hj⟩
  have HN := Lib.hid hn
  clear ho hv hn
  by_cases hcn : c = n
  · subst hcn
    go_enter Try.func205, Try.ntmps205
    go_wp2_with (at_builtin; refine push_row elPair rfl _ _ rfl base _ c (flat encP l) rfl HO.out (vb + 1) (some ⟨vb, 0, none⟩) 1 1 (encP x) rfl HV.out rfl (by simp [encP, Value.oneCell']) (by simp only [maxLen]; omega) (by omega) hb (fun h => by cases h) ?_)
    intro v2 w2 hp
    have HP := Lib.hid hp
    clear hp
    go_wp2
    go_ret
    refine ⟨v2, rfl, ?_, HP.out.2⟩
    have h := HP.out.1
    rw [flat_append, List.length_append, ← HN.out]
    simpa [flat] using h
  · have hcn' : ¬ (c = n) := hcn
    go_enter Try.func205, Try.ntmps205
    go_wp2_with (at_builtin; refine push_row elPair rfl _ _ rfl base _ n (flat encP l) rfl HO.out (vb + 1) (some ⟨vb, 0, none⟩) 1 1 (encP x) rfl HV.out rfl (by simp [encP, Value.oneCell']) (by simp only [maxLen]; omega) (by omega) hb (fun h => by cases h) ?_)
    intro v2 w2 hp
    have HP := Lib.hid hp
    clear hp
    go_wp2
    go_ret
    refine ⟨v2, rfl, ?_, HP.out.2⟩
    have h := HP.out.1
    rw [flat_append, List.length_append, ← HN.out]
    simpa [flat] using h
set_option maxRecDepth 100000 in
set_option maxHeartbeats 1000000 in
theorem insert_shift (base g cap n i vb : Nat) (l : List Pr) (x : Pr) (w : World) (hn : n = l.length) (ho : w.ownsRow base 82 2 (.slice (some ⟨g, 0, none⟩) n cap) n (flat encP l)) (hv : w.heap[vb]? = some (.cells #[.string x.1, .string x.2] 82 (0, 0))) (hvg : vb ≠ g) (hi : i < n) (hroom : n + 1 ≤ cap) (hl : n ≤ 1048576) (hb : base ≤ w.heap.size) :
    Calls Try.prog 205 #[.slice (some ⟨g, 0, none⟩) n cap, .int .i64 i, .slice (some ⟨vb, 0, none⟩) 1 1] w (InsPost base (.slice (some ⟨g, 0, none⟩) n cap) (insP l i x) w) := by
  rcases ho.2 with ⟨h', _⟩ | ⟨g', cap', cur, h', hbg, hg, hnc, hcm, hcs, htake⟩
  · simp at h'
  simp only [Value.slice.injEq, Option.some.injEq, Addr.mk.injEq, and_true, true_and] at h'
  obtain ⟨rfl, rfl⟩ := h'
  have hne : ((i : Int) == (n : Int)) = false := by rw [beq_eq_false_iff_ne]; omega
  have hb2 : ¬ (cap = i) := by omega
  have hb4 : ¬ (cap = i + 1) := by omega
  have hin : i ≤ n := by omega
  have hc63 : cap ≤ 9223372036854775807 := by unfold maxLen at hcm; omega
  have hfl : (flat encP l).length = n * 2 := by rw [hn]; exact flat_length encP_len l
  have hcl : cur.toList.length = cap * 2 := by simpa using hcs
  have hcells : ∀ j u, (flat encP l)[j]? = some u → w.cell? ⟨g, j, none⟩ = some u := fun j u hu => by
    rw [cell_of_row w g j _ _ _ hg]
    rw [← htake, List.getElem?_take] at hu
    split at hu
    · simpa using hu
    · cases hu
  have hov : ∀ lb cb, (callFunc 241 #[.slice (some ⟨vb, 0, none⟩) 1 1, .slice (some ⟨g, (i + 1) * 2, none⟩) lb cb]).run Try.prog w = .ok (.value (.bool false)) w := fun lb cb => by
    rw [run_callFunc_extern Try.func241 (by kernel_rfl) (by kernel_rfl) (by kernel_rfl) (e := Extern.SlicesOverlaps.overlaps #[59, 59] #[4]) (by kernel_rfl),
      Lib.run_overlaps_apart w 59 4 82 Try.underlying59 2 Try.sizeOf82 ⟨vb, 0, none⟩ ⟨g, (i + 1) * 2, none⟩ 1 1 lb cb hvg 82 82 2 (cap * 2) (by simp [World.shape?, hv]) (by simp [World.shape?, hg, hcs]) (by omega) (frozen_of_row w vb 0 _ _ hv) (frozen_of_row w vb 2 _ _ hv)]
    rfl
  have hd : ((flat encP l).drop (i * 2)).length = (n - i) * 2 := by rw [List.length_drop, hfl]; omega
  obtain ⟨C1, hC1⟩ : ∃ C1 : List Value, C1 = cur.toList.take ((i + 1) * 2) ++ (flat encP l).drop (i * 2) ++ cur.toList.drop ((i + 1) * 2 + ((flat encP l).drop (i * 2)).length) := ⟨_, rfl⟩
  have hC1l : C1.length = cap * 2 := by rw [hC1]; simp only [List.length_append, List.length_take, List.length_drop, hcl, hd, hfl]; omega
  have hcp1 : ∀ ty dc sc, (Builtin.copy_ #[59, 59] ty #[.slice (some ⟨g, (i + 1) * 2, none⟩) (n - i) dc, .slice (some ⟨g, i * 2, none⟩) (n + 1 - i) sc]).run Try.prog w.drew = .ok (goInt ((n - i : Nat) : Int)) (w.drew.setRow g C1.toArray) := fun ty dc sc => by
    have h := run_copy_rowK (P := Try.prog) w.drew 59 59 ty 82 2 g ((i + 1) * 2) (n - i) dc ⟨g, i * 2, none⟩ (n + 1 - i) sc cur 82 ((flat encP l).drop (i * 2)) Try.underlying59 sizePair hg
      (by rw [hd]; simp only [Nat.min_def]; split <;> omega)
      (fun j u hj => by
        rw [List.getElem?_drop] at hj
        have h2 := hcells _ u hj
        have e2 : (⟨g, i * 2, none⟩ : Addr).add j = ⟨g, i * 2 + j, none⟩ := by
          unfold Addr.add
          by_cases h0 : j = 0 <;> simp [h0]
        rw [e2]
        exact h2)
      (by rw [hd, hcs]; omega) (fun u hu => pr_one l u (List.mem_of_mem_drop hu))
    rw [h, ← hC1, show Nat.min (n + 1 - i) (n - i) = n - i from by simp only [Nat.min_def]; split <;> omega]
  have hg1 : (w.drew.setRow g C1.toArray).heap[g]? = some (.cells C1.toArray 82 (0, 0)) := setRow_heap w.drew g cur _ _ _ hg
  have hv1 : (w.drew.setRow g C1.toArray).heap[vb]? = some (.cells #[.string x.1, .string x.2] 82 (0, 0)) := (setRow_other w.drew g vb _ hvg).trans hv
  have hC1r : C1.take (i * 2) = flat encP (l.take i) := by
    have e : cur.toList.take (i * 2) = (flat encP l).take (i * 2) := by rw [← htake, List.take_take, Nat.min_eq_left (by omega)]
    rw [hC1, List.append_assoc, List.take_append_of_le_length (by rw [List.length_take, hcl]; omega), List.take_take, Nat.min_eq_left (by omega), e]
    exact flat_take l i (by omega)
  have hC1d : C1.drop (i * 2 + 2) = flat encP (l.drop i) ++ cur.toList.drop ((n + 1) * 2) := by
    rw [hC1, List.append_assoc, List.drop_append, List.drop_of_length_le (by rw [List.length_take, hcl]; omega), List.nil_append, List.length_take, hcl, hd, show (i + 1) * 2 + (n - i) * 2 = (n + 1) * 2 from by omega, show i * 2 + 2 - min ((i + 1) * 2) (cap * 2) = 0 from by rw [Nat.min_eq_left (by omega)]; omega, List.drop_zero, flat_drop l i]
  obtain ⟨C2, hC2⟩ : ∃ C2 : List Value, C2 = C1.take (i * 2) ++ encP x ++ C1.drop (i * 2 + 2) := ⟨_, rfl⟩
  have hcp2 : ∀ ty dc, (Builtin.copy_ #[59, 59] ty #[.slice (some ⟨g, i * 2, none⟩) (n + 1 - i) dc, .slice (some ⟨vb, 0, none⟩) 1 1]).run Try.prog (w.drew.setRow g C1.toArray) = .ok (goInt ((1 : Nat) : Int)) (w.drew.setRow g C2.toArray) := fun ty dc => by
    have h := run_copy_rowK (P := Try.prog) (w.drew.setRow g C1.toArray) 59 59 ty 82 2 g (i * 2) (n + 1 - i) dc ⟨vb, 0, none⟩ 1 1 C1.toArray 82 (encP x) Try.underlying59 sizePair hg1
      (by show 2 = _; simp only [Nat.min_def]; split <;> omega)
      (fun j u hj => by
        have e2 : (⟨vb, 0, none⟩ : Addr).add j = ⟨vb, j, none⟩ := by
          unfold Addr.add
          by_cases h0 : j = 0 <;> simp [h0]
        rw [e2, cell_of_row _ vb j _ _ _ hv1]
        simpa [encP] using hj)
      (by show _ + 2 ≤ _; simp [hC1l]; omega) (by simp [encP, Value.oneCell'])
    rw [h, setRow_setRow, show Nat.min 1 (n + 1 - i) = 1 from by simp only [Nat.min_def]; split <;> omega, hC2]
    rfl
  have HOWN : Hid ((w.drew.setRow g C2.toArray).ownsRow base 82 2 (.slice (some ⟨g, 0, none⟩) (n + 1) cap) (n + 1) (flat encP (insP l i x))) := by
    have hlen : (flat encP (insP l i x)).length = (n + 1) * 2 := by
      rw [flat_length encP_len]
      simp only [insP, List.length_append, List.length_take, List.length_cons, List.length_drop]
      omega
    refine ⟨hlen, .inr ⟨g, cap, _, rfl, hbg, setRow_heap w.drew g cur _ _ _ hg, hroom, hcm, ?_, ?_⟩⟩
    · simp only [List.size_toArray, hC2, List.length_append, List.length_take, List.length_drop, hC1l]
      show _ + 2 + _ = _
      omega
    · have e : C2 = flat encP (insP l i x) ++ cur.toList.drop ((n + 1) * 2) := by
        rw [hC2, hC1r, hC1d, insP, flat_append, flat_cons]
        simp
      rw [e, List.toList_toArray, List.take_append_of_le_length (by omega), List.take_of_length_le (by omega)]
  have HGR : Hid (w.grownBy (w.drew.setRow g C2.toArray) (some g)) := by
    have h := grown_setRow w.drew g C2.toArray
    exact ⟨h.os, h.tape, h.output, h.size, h.block⟩
  have HLEN : Hid ((insP l i x).length = n + 1) := by
    show _ = _
    simp only [insP, List.length_append, List.length_take, List.length_cons, List.length_drop]
    omega
  have HN := Lib.hid hn
  have HCP := Lib.hid hcp1
  have HCQ := Lib.hid hcp2
  have hw1 : IntKind.i64.wrap ((i : Int) + 1) = (i : Int) + 1 := IntWalk.i64_in _ (by omega)
  have hw2 : (0 : Int) ≤ (i : Int) + 1 := by omega
  have hw3 : ((i : Int) + 1).toNat = i + 1 := by omega
  have hw4 : (i : Int) + 1 ≤ (n : Int) + 1 := by omega
  have hw5 : (i : Int) ≤ (n : Int) + 1 := by omega
  have hw6 : (i : Int) ≤ (n : Int) := by omega
  clear hC2
  clear hn hcp1 hcp2 hg1 hv1 hC1r hC1d hC1 hC1l hd hfl hcells htake hg hv hcl hcs
  go_enter Try.func205, Try.ntmps205
  go_wp2_with (simp only [hov])
  go_region_law (refine step_copy_runI rfl _ _ 59 59 rfl (.slice (some ⟨g, (i + 1) * 2, none⟩) (n - i) (cap - (i + 1))) (.slice (some ⟨g, i * 2, none⟩) (n + 1 - i) (cap - i)) (by simp [Act.eval, Act.put]) (by simp [Act.eval, Act.put]) (HCP.out _ _ _) ?_)
  go_wp2_with (refine wpList_copy_runI _ rfl _ _ 59 59 rfl _ _ rfl rfl (HCQ.out _ _) ?_)
  go_ret
  exact ⟨_, rfl, by rw [HLEN.out]; exact HOWN.out, HGR.out⟩
end Go.Proofs.Ytlfnpnkpjdmonaa
namespace Go.Proofs.Ytlfnpnkpjdmonaa
open Go.RowKit

theorem addr_lit (g o j : Nat) : (⟨g, o, none⟩ : Addr).add j = ⟨g, o + j, none⟩ := by
  unfold Addr.add
  by_cases h0 : j = 0 <;> simp [h0]
theorem zero_len (n : Nat) : (Builtin.zeroCells (Value.agg #[.string ⟨#[]⟩, .string ⟨#[]⟩]).cells n).size = n * 2 := by simp [Builtin.zeroCells, Value.cells]
set_option maxRecDepth 100000 in
set_option maxHeartbeats 1000000 in
theorem insert_grow (base g cap n i vb : Nat) (l : List Pr) (x : Pr) (w : World) (hn : n = l.length) (ho : w.ownsRow base 82 2 (.slice (some ⟨g, 0, none⟩) n cap) n (flat encP l)) (hv : w.heap[vb]? = some (.cells #[.string x.1, .string x.2] 82 (0, 0))) (hi : i < n) (hroom : cap < n + 1) (hl : n ≤ 1048576) (hb : base ≤ w.heap.size) :
    Calls Try.prog 205 #[.slice (some ⟨g, 0, none⟩) n cap, .int .i64 i, .slice (some ⟨vb, 0, none⟩) 1 1] w (InsPost base (.slice (some ⟨g, 0, none⟩) n cap) (insP l i x) w) := by
  obtain ⟨i0, hi0, hz0, hzs, hzb⟩ := info_parts infoPair
  have hcells := ho.cells (g := g) rfl
  have hgl : g < w.heap.size := (ho.lt g rfl).2
  have hnc : n ≤ cap := by
    obtain ⟨_, _, e, h⟩ := own_form ho
    cases e
    exact h
  have hvl : vb < w.heap.size := (Array.getElem?_eq_some_iff.1 hv).1
  have hfl : (flat encP l).length = n * 2 := by rw [hn]; exact flat_length encP_len l
  have hcell2 : ∀ j u, (flat encP l)[j]? = some u → w.cell? ⟨g, j, none⟩ = some u := fun j u hu => by
    have h := hcells j u hu
    rw [addr_lit, Nat.zero_add] at h
    exact h
  have hti : (flat encP (l.take i)).length = i * 2 := by rw [flat_length encP_len, List.length_take, Nat.min_eq_left (by omega)]
  have hold : (Builtin.firstCells i0.size i (.slice (some ⟨g, 0, none⟩) i cap)).run Try.prog w.drew = .ok (flat encP (l.take i)).toArray w.drew := by
    rw [hzs]
    exact run_firstCells_some w.drew 2 i ⟨g, 0, none⟩ i cap (flat encP (l.take i)) hti (fun j u hj => by
      rw [addr_lit, Nat.zero_add]
      rw [← flat_take l i (by omega), List.getElem?_take] at hj
      split at hj
      · exact hcell2 j u hj
      · cases hj)
  obtain ⟨G, hG⟩ : ∃ G, G = grownCap w (n + 1) cap 82 := ⟨_, rfl⟩
  have hGn : n + 1 ≤ G := by rw [hG]; exact grownCap_ge w _ _ _
  have hGm : G ≤ maxLen := by rw [hG]; exact grownCap_le_maxLen w (n + 1) cap _ (by unfold maxLen; omega)
  obtain ⟨ROW, hROW⟩ : ∃ ROW : Array Value, ROW = (flat encP (l.take i)).toArray ++ Builtin.zeroCells (Value.agg #[.string ⟨#[]⟩, .string ⟨#[]⟩]).cells (n + 1 - i) ++ Builtin.zeroCells (Value.agg #[.string ⟨#[]⟩, .string ⟨#[]⟩]).cells (G - (n + 1)) := ⟨_, rfl⟩
  have hRs : ROW.size = G * 2 := by
    rw [hROW]
    simp only [Array.size_append, List.size_toArray, hti, zero_len]
    omega
  have hRt : ROW.toList.take (i * 2) = flat encP (l.take i) := by
    rw [hROW, Array.toList_append, Array.toList_append, List.append_assoc, List.toList_toArray, List.take_append_of_le_length (by omega), List.take_of_length_le (by omega)]
  have hkk : (n : Int) + 1 - (i : Int) = ((n + 1 - i : Nat) : Int) := by omega
  obtain ⟨W1, hW1⟩ : ∃ W1, W1 = w.drew.alloc (.cells ROW 82) := ⟨_, rfl⟩
  have hrz : ∀ ty, (Builtin.append_ #[59, 3] ty #[.slice (some ⟨g, 0, none⟩) i cap, .int .i64 ((n : Int) + 1 - (i : Int))]).run Try.prog w = .ok (.slice (some ⟨w.heap.size, 0, none⟩) (n + 1) G) W1 := fun ty => by
    have h := Lib.run_append_grow_zeros w 59 3 ty 82 i0 _ .i64 .i64 Try.underlying59 Try.underlying3 hi0 hz0 (some ⟨g, 0, none⟩) i cap (flat encP (l.take i)) hold (n + 1 - i) (by omega) (by omega) (by omega) (by omega) (by rw [hzb]; omega) (by rw [hzb]; exact growslice_fits (by omega) (by omega))
    rw [show i + (n + 1 - i) = n + 1 from by omega, ← hG, ← hROW, ← hW1, ← hkk] at h
    exact h
  have hN1 : W1.heap[w.heap.size]? = some (.cells ROW 82 (0, 0)) := by rw [hW1]; exact heap_alloc_new w.drew _
  have hB1 : ∀ k, k < w.heap.size → W1.heap[k]? = w.heap[k]? := fun k hk => by rw [hW1]; exact Lib.alloc_old w.drew _ k hk
  have hS1 : W1.heap.size = w.heap.size + 1 := by rw [hW1]; simp
  have hT1 : W1.os = w.os ∧ W1.tape = w.tape ∧ W1.output = w.output := by rw [hW1]; exact ⟨rfl, rfl, rfl⟩
  have hg1 : ∀ j u, (flat encP l)[j]? = some u → W1.cell? ⟨g, j, none⟩ = some u := fun j u hu => (World.cell?_of_block (hB1 g hgl)).trans (hcell2 j u hu)
  have hv1 : W1.heap[vb]? = some (.cells #[.string x.1, .string x.2] 82 (0, 0)) := (hB1 vb hvl).trans hv
  obtain ⟨R1, hR1⟩ : ∃ R1 : List Value, R1 = ROW.toList.take (i * 2) ++ encP x ++ ROW.toList.drop (i * 2 + 2) := ⟨_, rfl⟩
  have hR1l : R1.length = G * 2 := by
    rw [hR1]
    simp only [List.length_append, List.length_take, List.length_drop, Array.length_toList, hRs]
    show _ + 2 + _ = _
    omega
  have hcpA : ∀ ty dc, (Builtin.copy_ #[59, 59] ty #[.slice (some ⟨w.heap.size, i * 2, none⟩) (n + 1 - i) dc, .slice (some ⟨vb, 0, none⟩) 1 1]).run Try.prog W1 = .ok (goInt ((1 : Nat) : Int)) (W1.setRow w.heap.size R1.toArray) := fun ty dc => by
    have h := run_copy_rowK (P := Try.prog) W1 59 59 ty 82 2 w.heap.size (i * 2) (n + 1 - i) dc ⟨vb, 0, none⟩ 1 1 ROW 82 (encP x) Try.underlying59 sizePair hN1
      (by show 2 = _; simp only [Nat.min_def]; split <;> omega)
      (fun j u hj => by
        rw [addr_lit, Nat.zero_add, cell_of_row _ vb j _ _ _ hv1]
        simpa [encP] using hj)
      (by show _ + 2 ≤ _; omega) (by simp [encP, Value.oneCell'])
    rw [h, show Nat.min 1 (n + 1 - i) = 1 from by simp only [Nat.min_def]; split <;> omega, hR1]
    rfl
  have hd : ((flat encP l).drop (i * 2)).length = (n - i) * 2 := by rw [List.length_drop, hfl]; omega
  have hN2 : (W1.setRow w.heap.size R1.toArray).drew.heap[w.heap.size]? = some (.cells R1.toArray 82 (0, 0)) := setRow_heap W1 _ _ _ _ _ hN1
  obtain ⟨R2, hR2⟩ : ∃ R2 : List Value, R2 = R1.take ((i + 1) * 2) ++ (flat encP l).drop (i * 2) ++ R1.drop ((i + 1) * 2 + (n - i) * 2) := ⟨_, rfl⟩
  have hcpB : ∀ ty dc sc, (Builtin.copy_ #[59, 59] ty #[.slice (some ⟨w.heap.size, (i + 1) * 2, none⟩) (n - i) dc, .slice (some ⟨g, i * 2, none⟩) (n - i) sc]).run Try.prog (W1.setRow w.heap.size R1.toArray).drew = .ok (goInt ((n - i : Nat) : Int)) ((W1.setRow w.heap.size R1.toArray).drew.setRow w.heap.size R2.toArray) := fun ty dc sc => by
    have h := run_copy_rowK (P := Try.prog) (W1.setRow w.heap.size R1.toArray).drew 59 59 ty 82 2 w.heap.size ((i + 1) * 2) (n - i) dc ⟨g, i * 2, none⟩ (n - i) sc R1.toArray 82 ((flat encP l).drop (i * 2)) Try.underlying59 sizePair hN2
      (by rw [hd]; simp)
      (fun j u hj => by
        rw [List.getElem?_drop] at hj
        rw [addr_lit]
        exact (World.cell?_of_block (w := W1) (setRow_other W1 _ g _ (by omega))).trans (hg1 _ u hj))
      (by rw [hd]; simp [hR1l]; omega) (fun u hu => pr_one l u (List.mem_of_mem_drop hu))
    rw [h, hd, ← hR2, show Nat.min (n - i) (n - i) = n - i from by simp]
  have HOWN : Hid (((W1.setRow w.heap.size R1.toArray).drew.setRow w.heap.size R2.toArray).ownsRow base 82 2 (.slice (some ⟨w.heap.size, 0, none⟩) (n + 1) G) (n + 1) (flat encP (insP l i x))) := by
    have hlen : (flat encP (insP l i x)).length = (n + 1) * 2 := by
      rw [flat_length encP_len]
      simp only [insP, List.length_append, List.length_take, List.length_cons, List.length_drop]
      omega
    have e : R2 = flat encP (insP l i x) ++ R1.drop ((i + 1) * 2 + (n - i) * 2) := by
      have e1 : R1.take ((i + 1) * 2) = flat encP (l.take i) ++ encP x := by
        rw [hR1, hRt, List.take_append_of_le_length (by rw [List.length_append, hti]; show _ ≤ _ + 2; omega), List.take_of_length_le (by rw [List.length_append, hti]; show _ + 2 ≤ _; omega)]
      rw [hR2, e1, flat_drop, insP, flat_append, flat_cons]
      simp
    refine ⟨hlen, .inr ⟨w.heap.size, G, _, rfl, hb, setRow_heap _ _ _ _ _ _ hN2, hGn, hGm, ?_, ?_⟩⟩
    · rw [e]
      simp only [List.size_toArray, List.length_append, List.length_drop, hlen, hR1l]
      omega
    · rw [e, List.toList_toArray, List.take_append_of_le_length (by omega), List.take_of_length_le (by omega)]
  have HGR : Hid (w.grownBy ((W1.setRow w.heap.size R1.toArray).drew.setRow w.heap.size R2.toArray) (some g)) := by
    refine ⟨hT1.1, hT1.2.1, hT1.2.2, ?_, fun k hk _ => ?_⟩
    · simp [hS1]
    · rw [setRow_other _ _ k _ (by omega)]
      exact (setRow_other W1 _ k _ (by omega)).trans (hB1 k hk)
  have HLEN : Hid ((insP l i x).length = n + 1) := by
    show _ = _
    simp only [insP, List.length_append, List.length_take, List.length_cons, List.length_drop]
    omega
  have hne : ((i : Int) == (n : Int)) = false := by rw [beq_eq_false_iff_ne]; omega
  have hc1 : ¬ (cap = i) := by omega
  have hc2 : ¬ (G = i) := by omega
  have hc3 : ¬ (G = i + 1) := by omega
  have hin : i ≤ n := by omega
  have hG63 : G ≤ 9223372036854775807 := by unfold maxLen at hGm; omega
  have hw1 : IntKind.i64.wrap ((i : Int) + 1) = (i : Int) + 1 := IntWalk.i64_in _ (by omega)
  have hw2 : (0 : Int) ≤ (i : Int) + 1 := by omega
  have hw3 : ((i : Int) + 1).toNat = i + 1 := by omega
  have hw4 : (i : Int) + 1 ≤ (n : Int) + 1 := by omega
  have hw5 : (i : Int) ≤ (n : Int) + 1 := by omega
  have hw6 : (i : Int) ≤ (n : Int) := by omega
  have HN := Lib.hid hn
  have HA := Lib.hid hcpA
  have HB := Lib.hid hcpB
  have HZ := Lib.hid hrz
  clear hn hcpA hcpB hrz hi0 hz0 hzs hzb hcells hfl hcell2 hti hold hG hROW hRs hRt hkk hW1 hN1 hB1 hS1 hT1 hg1 hv1 hR1 hR1l hd hN2 hR2 ho hv hGm
  go_enter Try.func205, Try.ntmps205
  go_wp2_with (first
    | (at_builtin; refine Lib.wpList_append_run _ rfl _ _ _ _ rfl _ _ rfl rfl _ _ (HZ.out _) ?_)
    | (refine wpList_copy_runI _ rfl _ _ 59 59 rfl _ _ rfl rfl (HA.out _ _) ?_))
  go_region_law (refine step_copy_runI rfl _ _ 59 59 rfl (.slice (some ⟨w.heap.size, (i + 1) * 2, none⟩) (n - i) (G - (i + 1))) (.slice (some ⟨g, i * 2, none⟩) (n - i) (cap - i)) (by simp [Act.eval, Act.put]) (by simp [Act.eval, Act.put]) (HB.out _ _ _) ?_)
  go_wp2_with fail
  go_ret
  exact ⟨_, rfl, by rw [HLEN.out]; exact HOWN.out, HGR.out⟩
end Go.Proofs.Ytlfnpnkpjdmonaa
namespace Go.Proofs.Ytlfnpnkpjdmonaa
open Go.RowKit

/-! ### Insert, whole; put of a pair -/
theorem insert_any (base i vb : Nat) (v : Value) (l : List Pr) (x : Pr) (w : World) (ho : w.ownsRow base 82 2 v l.length (flat encP l)) (hv : w.heap[vb]? = some (.cells #[.string x.1, .string x.2] 82 (0, 0))) (hvg : ∀ g, v.ownBlock = some g → vb ≠ g) (hi : i ≤ l.length) (hl : l.length ≤ 1048576) (hb : base ≤ w.heap.size) :
    Calls Try.prog 205 #[v, .int .i64 i, .slice (some ⟨vb, 0, none⟩) 1 1] w (InsPost base v (insP l i x) w) := by
  by_cases he : i = l.length
  · subst he
    have e : insP l l.length x = l ++ [x] := by simp [insP]
    rw [e]
    exact insert_end base v l.length vb l x w rfl ho hv hl hb
  · have hi' : i < l.length := by omega
    obtain ⟨n, hn⟩ : ∃ n, n = l.length := ⟨_, rfl⟩
    rcases ho.2 with ⟨h', h0⟩ | ⟨g, cap, cur, h', _⟩
    · omega
    · subst h'
      rw [← hn] at ho ⊢
      by_cases hr : n + 1 ≤ cap
      · exact insert_shift base g cap n i vb l x w hn ho hv (hvg g rfl) (by omega) hr (by omega) hb
      · exact insert_grow base g cap n i vb l x w hn ho hv (by omega) (by omega) (by omega) hb
theorem set_val (l : List Pr) (i : Nat) (k v : ByteArray) (hi : i < l.length) (hk : l[i].1 = k) : (flat encP l).set (i * 2 + 1) (.string v) = flat encP (l.take i ++ (k, v) :: l.drop (i + 1)) := by
  have e : l = l.take i ++ l[i] :: l.drop (i + 1) := by simp
  have h1 : (flat encP (l.take i)).length = i * 2 := by rw [flat_length encP_len, List.length_take, Nat.min_eq_left (by omega)]
  rw [show flat encP l = flat encP (l.take i ++ l[i] :: l.drop (i + 1)) from by rw [← e], flat_append, flat_append, flat_cons, flat_cons, List.set_append, if_neg (by omega), h1, show i * 2 + 1 - i * 2 = 1 from by omega]
  simp [encP, hk]
theorem putP_len (l : List Pr) (k v : ByteArray) : (putP l k v).length = if hitP l k then l.length else l.length + 1 := by
  have h1 := atP_le l k
  unfold putP
  cases hh : hitP l k with
  | false => simp; omega
  | true =>
    have h2 := hitP_eq l k
    rw [hh] at h2
    split at h2
    · simp; omega
    · cases h2
set_option maxRecDepth 100000 in
set_option maxHeartbeats 1000000 in
theorem putPair_any (base : Nat) (v : Value) (l : List Pr) (k x : ByteArray) (w : World) (ho : w.ownsRow base 82 2 v l.length (flat encP l)) (hr : Rise l) (hl : l.length ≤ 1048575) (hb : base ≤ w.heap.size) :
    Calls Try.prog 137 #[v, .string k, .string x] w (InsPost base v (putP l k x) w) := by
  obtain ⟨I, hI⟩ : ∃ I, I = atP l k := ⟨_, rfl⟩
  have hIl : I ≤ l.length := by rw [hI]; exact atP_le l k
  cases hh : hitP l k with
  | true =>
    obtain ⟨hlt, hkey⟩ : ∃ h : I < l.length, l[I].1 = k := by
      have h2 := hitP_eq l k
      rw [hh, ← hI] at h2
      split at h2
      · exact ⟨by assumption, of_decide_eq_true h2.symm⟩
      · cases h2
    rcases ho.2 with ⟨h', h0⟩ | ⟨g, cap, cur, h', _⟩
    · omega
    subst h'
    have HC := Lib.hid (pairAt_any (some ⟨g, 0, none⟩) cap l k w (Rd.own ho) (by omega) hr)
    rw [← hI, hh] at HC
    have HO := Lib.hid ho
    have HE : Hid ((flat encP l).set (I * 2 + 1) (.string x) = flat encP (putP l k x)) := by
      show _ = _
      rw [set_val l I k x hlt hkey]
      unfold putP
      rw [hh, ← hI]
      rfl
    have HL : Hid ((putP l k x).length = l.length) := by
      show _ = _
      rw [putP_len, hh]
      rfl
    clear ho hr hkey hI hh
    go_enter Try.func137, Try.ntmps137
    go_wp2_with fail
    refine HC.out.mono ?_
    rintro e w1 ⟨rfl, hb1⟩
    have ho1 := own_below HO.out hb1
    have hce : ∃ u, w1.cell? ⟨g, I * 2 + 1, none⟩ = some u := by
      rw [ho1.cellAt (I * 2 + 1) (by omega)]
      exact ⟨_, List.getElem?_eq_getElem (by rw [flat_length encP_len]; omega)⟩
    obtain ⟨u, hcu⟩ := hce
    have hfr := ho1.frozenAt (I * 2 + 1)
    have HB := Lib.hid (grown_below hb1 (some g))
    have HO1 := Lib.hid ho1
    clear hb1 ho1
    go_wp2
    go_ret
    obtain ⟨h1, h2⟩ := HO1.out.stored (I * 2 + 1) (.string x)
    rw [HE.out] at h1
    exact ⟨_, rfl, by rw [HL.out]; exact h1, grown_after HB.out h2⟩
  | false =>
    obtain ⟨A, c, rfl, hnc⟩ := own_form ho
    have HC := Lib.hid (pairAt_any A c l k w (Rd.own ho) (by omega) hr)
    rw [← hI, hh] at HC
    have HO := Lib.hid ho
    have HE : Hid (insP l I (k, x) = putP l k x) := by
      show _ = _
      unfold putP insP
      rw [hh, ← hI]
      rfl
    clear ho hr hI hh
    go_enter Try.func137, Try.ntmps137
    go_wp2_with fail
    refine HC.out.mono ?_
    rintro e w1 ⟨rfl, hb1⟩
    have ho1 := own_below HO.out hb1
    have hbs := hb1.size
    have HB := Lib.hid (grown_below hb1 (Value.slice A l.length c).ownBlock)
    have HO1 := Lib.hid ho1
    clear hb1 ho1
    go_wp2_with fail
    refine (insert_any base I w1.heap.size (.slice A l.length c) l (k, x) _ (HO1.out.alloc _) (heap_alloc_new _ _) (fun g hg => by have := (HO1.out.lt g hg).2; omega) hIl (by omega) (by simp; omega)).mono ?_
    rintro e w2 ⟨v2, rfl, ho2, hg2⟩
    rw [HE.out] at ho2
    have HG : Hid (w.grownBy w2 (Value.slice A l.length c).ownBlock) := by
      have h1 : w1.grownBy (w1.alloc (.cells #[.string k, .string x] 82)) (Value.slice A l.length c).ownBlock := ⟨rfl, rfl, rfl, by simp, fun k hk _ => Lib.alloc_old w1 _ k hk⟩
      exact grown_after (grown_after HB.out h1) hg2
    have HO2 := Lib.hid ho2
    clear ho2 hg2
    go_wp2_with fail
    go_ret
    exact ⟨_, rfl, HO2.out, HG.out⟩
end Go.Proofs.Ytlfnpnkpjdmonaa
namespace Go.Proofs.Ytlfnpnkpjdmonaa
open Go.RowKit

/-! ### slices.Delete of one pair of a row of the call's own -/
section
variable {P : Program}
theorem step_append_runI {ops : Array Oper} {o : Oper} {a : Act} {w : World} {K : Act → World → Prop} {Q : Exit → Act → World → Prop} {E : Prop}
    (hg : o.guard = none) (d x : Operand) (dT sT : TypeId) (hop : o.op = Op.call { callee := Callee.builtin Builtin.append, args := #[d, x], argTypes := #[dT, sT] })
    (v u : Value) (hd : a.eval d = v) (hx : a.eval x = u) {v' : Value} {w' : World} (hr : (Builtin.append_ #[dT, sT] o.type #[v, u]).run P w = .ok v' w') (hK : K (a.put o.dst v') w') :
    if Region.wanted o (yielded ops a.tmps) = true then Oper.wp P o a w K Q else E := by
  have hw : Region.wanted o (yielded ops a.tmps) = true := by simp [Region.wanted, hg]
  rw [if_pos hw]
  unfold Oper.wp execOp
  simp only [hop, resolve, invoke, builtin, Sem.run_bind, Sem.run_pure, Result.andThen_ok, List.map_toArray, List.map_cons, List.map_nil, hd, hx, hr]
  exact hK
theorem wpList_clear_runI (w : World) {ops : Array Oper} {rest : List Oper} {o : Oper} {a : Act} {Q : Exit → Act → World → Prop} (hgd : o.guard = none) (s : Operand) (t : TypeId)
    (ho : o.op = .call { callee := .builtin .clear, args := #[s], argTypes := #[t] }) (v : Value) (hs : a.eval s = v) {v' : Value} {w' : World}
    (hr : (Builtin.clear_ #[t] o.type #[v]).run P w = .ok v' w') (h : wpList P ops Q rest (a.put o.dst v') w') : wpList P ops Q (o :: rest) a w :=
  wpList_plain hgd fun K hK => by
    unfold Oper.wp execOp
    simp only [ho, resolve, invoke, builtin, Sem.run_bind, Sem.run_pure, Result.andThen_ok, List.map_toArray, List.map_cons, List.map_nil, hs, hr]
    exact hK _ _ h
end
def delP (l : List Pr) (i : Nat) : List Pr := l.take i ++ l.drop (i + 1)
theorem zero_cells1 : (Builtin.zeroCells (Value.agg #[.string ⟨#[]⟩, .string ⟨#[]⟩]).cells 1).toList = [.string ⟨#[]⟩, .string ⟨#[]⟩] := by
  simp [Builtin.zeroCells, Value.cells, List.range_succ]
set_option maxRecDepth 100000 in
set_option maxHeartbeats 1000000 in
theorem delete_any (base g cap m i : Nat) (l : List Pr) (w : World) (hn : m + 1 = l.length) (ho : w.ownsRow base 82 2 (.slice (some ⟨g, 0, none⟩) (m + 1) cap) (m + 1) (flat encP l)) (hi : i < m + 1) (hl : m ≤ 1048576) (hb : base ≤ w.heap.size) :
    Calls Try.prog 207 #[.slice (some ⟨g, 0, none⟩) (m + 1) cap, .int .i64 i, .int .i64 ((i : Int) + 1)] w (InsPost base (.slice (some ⟨g, 0, none⟩) (m + 1) cap) (delP l i) w) := by
  rcases ho.2 with ⟨h', _⟩ | ⟨g', cap', cur, h', hbg, hg, hnc, hcm, hcs, htake⟩
  · simp at h'
  simp only [Value.slice.injEq, Option.some.injEq, Addr.mk.injEq, and_true, true_and] at h'
  obtain ⟨rfl, rfl⟩ := h'
  obtain ⟨i0, hi0, hz0, hzs, hzb⟩ := info_parts infoPair
  have hc63 : cap ≤ 9223372036854775807 := by unfold maxLen at hcm; omega
  have hfl : (flat encP l).length = (m + 1) * 2 := by rw [flat_length encP_len, ← hn]
  have hcl : cur.toList.length = cap * 2 := by simpa using hcs
  have hcells : ∀ j u, (flat encP l)[j]? = some u → w.cell? ⟨g, j, none⟩ = some u := fun j u hu => by
    rw [cell_of_row w g j _ _ _ hg]
    rw [← htake, List.getElem?_take] at hu
    split at hu
    · simpa using hu
    · cases hu
  have hd : (flat encP (l.drop (i + 1))).length = (m - i) * 2 := by rw [flat_length encP_len, List.length_drop]; omega
  have htk : cur.toList.take (i * 2) = flat encP (l.take i) := by
    have e : cur.toList.take (i * 2) = (flat encP l).take (i * 2) := by rw [← htake, List.take_take, Nat.min_eq_left (by omega)]
    rw [e]
    exact flat_take l i (by omega)
  have hti : (flat encP (l.take i)).length = i * 2 := by rw [flat_length encP_len, List.length_take, Nat.min_eq_left (by omega)]
  have hdl : (delP l i).length = m := by simp only [delP, List.length_append, List.length_take, List.length_drop]; omega
  have hfd : (flat encP (delP l i)).length = m * 2 := by rw [flat_length encP_len, hdl]
  obtain ⟨C1, hC1⟩ : ∃ C1 : List Value, C1 = flat encP (delP l i) ++ cur.toList.drop (m * 2) := ⟨_, rfl⟩
  have hC1l : C1.length = cap * 2 := by rw [hC1]; simp only [List.length_append, List.length_drop, hcl, hfd]; omega
  have happ : ∀ ty ad mm c, mm = m - i → (∀ j u, (flat encP (l.drop (i + 1)))[j]? = some u → w.drew.cell? (Addr.add ad j) = some u) → (Builtin.append_ #[59, 59] ty #[.slice (some ⟨g, 0, none⟩) i cap, .slice (some ad) mm c]).run Try.prog w.drew = .ok (.slice (some ⟨g, 0, none⟩) m cap) (w.drew.setRow g C1.toArray) := fun ty ad mm c hmm hcc => by
    have h := run_append_room (P := Try.prog) w.drew 59 ty 82 i0 Try.underlying59 hi0 g i cap cur hg ad mm c (flat encP (l.drop (i + 1))) (by rw [hd, hzs, hmm]) hcc (fun u hu => pr_one _ u hu) (by omega) (by rw [hd, hzs]; omega)
    rw [h, hzs, hd, show i + mm = m from by omega, htk, hC1, show i * 2 + (m - i) * 2 = m * 2 from by omega]
    unfold delP
    rw [flat_append]
  have hg1 : (w.drew.setRow g C1.toArray).heap[g]? = some (.cells C1.toArray 82 (0, 0)) := setRow_heap w.drew g cur _ _ _ hg
  obtain ⟨C2, hC2⟩ : ∃ C2 : List Value, C2 = C1.take (m * 2) ++ [.string ⟨#[]⟩, .string ⟨#[]⟩] ++ C1.drop (m * 2 + 2) := ⟨_, rfl⟩
  have hclr : ∀ ty c, (Builtin.clear_ #[59] ty #[.slice (some ⟨g, m * 2, none⟩) 1 c]).run Try.prog (w.drew.setRow g C1.toArray) = .ok (.tuple #[]) (w.drew.setRow g C2.toArray) := fun ty c => by
    have h := run_clear_rowK (P := Try.prog) (w.drew.setRow g C1.toArray) 59 82 ty _ C1.toArray g (m * 2) 1 c 82 Try.underlying59 zeroPair (by rw [zero_cells1]; simp [Value.oneCell']) (by omega) hg1 (by rw [zero_cells1]; simp only [List.length_cons, List.length_nil, List.size_toArray, hC1l]; omega)
    rw [h, setRow_setRow, zero_cells1, hC2]
    rfl
  have HOWN : Hid ((w.drew.setRow g C2.toArray).ownsRow base 82 2 (.slice (some ⟨g, 0, none⟩) m cap) m (flat encP (delP l i))) := by
    refine ⟨hfd, .inr ⟨g, cap, _, rfl, hbg, setRow_heap w.drew g cur _ _ _ hg, by omega, hcm, ?_, ?_⟩⟩
    · simp only [List.size_toArray, hC2, List.length_append, List.length_take, List.length_drop, hC1l, List.length_cons, List.length_nil]
      omega
    · rw [hC2, List.toList_toArray, List.append_assoc, List.take_append_of_le_length (by rw [List.length_take, hC1l]; omega), List.take_take, Nat.min_self, hC1, List.take_append_of_le_length (by omega), List.take_of_length_le (by omega)]
  have HGR : Hid (w.grownBy (w.drew.setRow g C2.toArray) (some g)) := by
    have h := grown_setRow w.drew g C2.toArray
    exact ⟨h.os, h.tape, h.output, h.size, h.block⟩
  have HLEN := Lib.hid hdl
  have hie : ((i : Int) == (i : Int) + 1) = false := by rw [beq_eq_false_iff_ne]; omega
  have hcm' : ¬ (cap = m) := by omega
  have hci : ¬ (cap = i) := by omega
  have him : i ≤ m := by omega
  have hw1 : IntKind.i64.wrap ((i : Int) + 1) = (i : Int) + 1 := IntWalk.i64_in _ (by omega)
  have hw2 : (0 : Int) ≤ (i : Int) + 1 := by omega
  have hw3 : ((i : Int) + 1).toNat = i + 1 := by omega
  have hw4 : (i : Int) + 1 ≤ (m : Int) + 1 := by omega
  have hw5 : (i : Int) ≤ (m : Int) + 1 := by omega
  have hw6 : (i : Int) ≤ (m : Int) := by omega
  have hw7 : (i : Int) ≤ (i : Int) + 1 := by omega
  have hic : i ≤ cap := by omega
  have hw8 : (m : Int) + 1 ≤ (cap : Int) := by omega
  have hdrop : ∀ j u, (flat encP (l.drop (i + 1)))[j]? = some u → w.drew.cell? (Addr.add ⟨g, (i + 1) * 2, none⟩ j) = some u := fun j u hj => by
    rw [← flat_drop, List.getElem?_drop] at hj
    rw [addr_lit]
    exact hcells _ u hj
  by_cases hce : cap = i + 1
  · obtain rfl : i = m := by omega
    subst hce
    have he : flat encP (l.drop (i + 1)) = [] := List.eq_nil_of_length_eq_zero (by rw [hd]; omega)
    have HA : Hid (∀ ty c, (Builtin.append_ #[59, 59] ty #[.slice (some ⟨g, 0, none⟩) i (i + 1), .slice (some ⟨g, 0, none⟩) 0 c]).run Try.prog w.drew = .ok (.slice (some ⟨g, 0, none⟩) i (i + 1)) (w.drew.setRow g C1.toArray)) := fun ty c => happ ty _ 0 c (by omega) (fun j u hj => by rw [he] at hj; simp at hj)
    have HC := Lib.hid hclr
    clear hn ho hg hcs htake hi0 hz0 hzs hzb hfl hcl hcells hd htk hti hdl hfd hC1 hC1l happ hg1 hC2 hclr hdrop he
    go_enter Try.func207, Try.ntmps207
    go_wp2_with fail
    go_region_law (refine step_append_runI rfl _ _ 59 59 rfl (.slice (some ⟨g, 0, none⟩) i (i + 1)) (.slice (some ⟨g, 0, none⟩) 0 0) (by simp [Act.eval, Act.put]) (by simp [Act.eval, Act.put]) (HA.out _ _) ?_)
    go_wp2_with (refine wpList_clear_runI _ rfl _ 59 rfl _ rfl (HC.out _ _) ?_)
    go_ret
    exact ⟨_, rfl, by rw [HLEN.out]; exact HOWN.out, HGR.out⟩
  · have HA : Hid (∀ ty mm c, mm = m - i → (Builtin.append_ #[59, 59] ty #[.slice (some ⟨g, 0, none⟩) i cap, .slice (some ⟨g, (i + 1) * 2, none⟩) mm c]).run Try.prog w.drew = .ok (.slice (some ⟨g, 0, none⟩) m cap) (w.drew.setRow g C1.toArray)) := fun ty mm c hmm => happ ty _ mm c hmm hdrop
    have HC := Lib.hid hclr
    clear hn ho hg hcs htake hi0 hz0 hzs hzb hfl hcl hcells hd htk hti hdl hfd hC1 hC1l happ hg1 hC2 hclr hdrop
    go_enter Try.func207, Try.ntmps207
    go_wp2_with fail
    go_region_law (refine step_append_runI rfl _ _ 59 59 rfl (.slice (some ⟨g, 0, none⟩) i cap) (.slice (some ⟨g, (i + 1) * 2, none⟩) (m - i) (cap - (i + 1))) (by simp [Act.eval, Act.put]) (by simp [Act.eval, Act.put]) (HA.out _ _ _ (by omega)) ?_)
    go_wp2_with (refine wpList_clear_runI _ rfl _ 59 rfl _ rfl (HC.out _ _) ?_)
    go_ret
    exact ⟨_, rfl, by rw [HLEN.out]; exact HOWN.out, HGR.out⟩
end Go.Proofs.Ytlfnpnkpjdmonaa
