import Derived.Test.YtlfnpnkpjdmonaaBuilder
import Derived.Laws.AppendOwnNone
import Derived.Deep.AppendLies
import Derived.Deep.RegionHeld3
set_option linter.unusedVariables false
set_option linter.unusedSimpArgs false
namespace Go.Proofs.Ytlfnpnkpjdmonaa
open Go.RowKit

/-! ### append to a row of the call's own, in fewer words -/
def ElT (P : Program) (t e : TypeId) (size bytes : Nat) : Prop := ∃ i z, P.underlying t = some (.slice e) ∧ P.info? e = some i ∧ i.zero = some z ∧ i.size = size ∧ i.bytes = bytes ∧ z.cells.size = size ∧ 0 < size
theorem elByte : ElT Try.prog 39 5 1 1 := by
  obtain ⟨i, hi, hz, hs, hb⟩ := info_parts infoByte
  exact ⟨i, _, Try.underlying39, hi, hz, hs, hb, rfl, by decide⟩
theorem elStr : ElT Try.prog 29 9 1 16 := by
  obtain ⟨i, hi, hz, hs, hb⟩ := info_parts infoString
  exact ⟨i, _, Try.underlying29, hi, hz, hs, hb, rfl, by decide⟩
section
variable {P : Program} {w : World} {ops : Array Oper} {rest : List Oper} {o : Oper} {a : Act} {Q : Exit → Act → World → Prop}
/-- what an append leaves -/
def Pushed (base : Nat) (e : TypeId) (size : Nat) (v : Value) (m : Nat) (ys : List Value) (w : World) (v' : Value) (w' : World) : Prop :=
  w'.ownsRow base e size v' m ys ∧ w.grownBy w' v.ownBlock
theorem Pushed.below {base : Nat} {e : TypeId} {size : Nat} {v v' : Value} {n m : Nat} {xs ys : List Value} {w w' W : World} (h : Pushed base e size v m ys w v' w') (ho : w.ownsRow base e size v n xs) (hb : Below base W w) (hB : base ≤ w.heap.size) : Below base W w' :=
  hb.grown h.2 hB fun k hk => (ho.lt k hk).1
theorem Pushed.below' {B base : Nat} {e : TypeId} {size : Nat} {v v' : Value} {n m : Nat} {xs ys : List Value} {w w' W : World} (h : Pushed base e size v m ys w v' w') (ho : w.ownsRow base e size v n xs) (hb : Below B W w) (hB : B ≤ w.heap.size) (hBb : B ≤ base) : Below B W w' :=
  hb.grown h.2 hB fun k hk => Nat.le_trans hBb (ho.lt k hk).1
/-- a literal of one element, appended -/
theorem push_one {t e : TypeId} {size bytes : Nat} (el : ElT P t e size bytes) (hgd : o.guard = none) (s x : Operand) (ho : o.op = .call { callee := .builtin .append, args := #[s, x], argTypes := #[t, t] })
    (base : Nat) (v : Value) (n : Nat) (xs : List Value) (hs : a.eval s = v) (hown : w.ownsRow base e size v n xs) (cs : List Value) (arr : Array Value) (harr : arr = cs.toArray) (hx : a.eval x = .slice (some ⟨w.heap.size, 0, none⟩) 1 1) (hl : cs.length = size) (h1 : ∀ u ∈ cs, u.oneCell' = true)
    (h63 : n + 1 ≤ maxLen) (hbytes : (n + 1) * bytes ≤ 140737488355328) (hbase : base ≤ w.heap.size)
    (h : ∀ v' w', Pushed base e size v (n + 1) (xs ++ cs) w v' w' → wpList P ops Q rest (a.put o.dst v') w') : wpList P ops Q (o :: rest) a (w.alloc (.cells arr e)) := by
  subst harr
  obtain ⟨i, z, ht, hi, hz, hsize, hby, hzs, hsz⟩ := el
  refine wpList_append_own _ hgd s x t ho base e i z size bytes ht hi hz hsize hby hzs hsz v n xs hs (hown.alloc _) ⟨w.heap.size, 0, none⟩ 1 1 cs hx (by omega) ?_ h1 h63 hbytes (by simp; omega) (fun v' w' h2 h3 _ => h v' w' ⟨h2, ?_⟩)
  · intro j u hj
    have hjl := (List.getElem?_eq_some_iff.1 hj).1
    have e2 : (⟨w.heap.size, 0, none⟩ : Addr).add j = ⟨w.heap.size, j, none⟩ := by
      unfold Addr.add
      by_cases h0 : j = 0 <;> simp [h0]
    rw [e2, World.cell?_alloc_new]
    simpa using hj
  · exact ⟨h3.os, h3.tape, h3.output, Nat.le_trans (by simp) h3.size, fun k hk hne => (h3.block k (by simp; omega) hne).trans (Lib.alloc_old w _ k hk)⟩
/-- a row that is read, appended -/
theorem push_row {t e : TypeId} {size bytes : Nat} (el : ElT P t e size bytes) (hgd : o.guard = none) (s x : Operand) (ho : o.op = .call { callee := .builtin .append, args := #[s, x], argTypes := #[t, t] })
    (base : Nat) (v : Value) (n : Nat) (xs : List Value) (hs : a.eval s = v) (hown : w.ownsRow base e size v n xs) (B : Nat) (A : Option Addr) (m c : Nat) (news : List Value) (hx : a.eval x = .slice A m c) (hr : Rd w B A news) (hl : news.length = m * size) (h1 : ∀ u ∈ news, u.oneCell' = true)
    (h63 : n + m ≤ maxLen) (hbytes : (n + m) * bytes ≤ 140737488355328) (hbase : base ≤ w.heap.size) (hA : A = none → m = 0 ∧ c = 0)
    (h : ∀ v' w', Pushed base e size v (n + m) (xs ++ news) w v' w' → wpList P ops Q rest (a.put o.dst v') w') : wpList P ops Q (o :: rest) a w := by
  obtain ⟨i, z, ht, hi, hz, hsize, hby, hzs, hsz⟩ := el
  cases A with
  | none =>
    obtain ⟨rfl, rfl⟩ := hA rfl
    obtain rfl : news = [] := List.eq_nil_of_length_eq_zero (by simpa using hl)
    exact wpList_append_own_none hgd s x t ho base e i size ht hi v n xs hs hown hx (h v w ⟨by simpa using hown, World.grownBy.refl _ _⟩)
  | some ad =>
    refine wpList_append_own _ hgd s x t ho base e i z size bytes ht hi hz hsize hby hzs hsz v n xs hs hown ad m c news hx hl ?_ h1 h63 hbytes hbase (fun v' w' h2 h3 _ => h v' w' ⟨h2, h3⟩)
    intro j u hj
    by_cases hne : news = []
    · subst hne; simp at hj
    · obtain ⟨ad', e1, _, hc⟩ := hr hne
      injection e1 with e1
      subst e1
      exact hc j u hj
theorem step_push_row {t e : TypeId} {size bytes : Nat} {K : Act → World → Prop} {E : Prop} (el : ElT P t e size bytes) (hgd : o.guard = none) (s x : Operand) (ho : o.op = .call { callee := .builtin .append, args := #[s, x], argTypes := #[t, t] })
    (base : Nat) (v : Value) (n : Nat) (xs : List Value) (hs : a.eval s = v) (hown : w.ownsRow base e size v n xs) (B : Nat) (A : Option Addr) (m c : Nat) (news : List Value) (hx : a.eval x = .slice A m c) (hr : Rd w B A news) (hl : news.length = m * size) (h1 : ∀ u ∈ news, u.oneCell' = true)
    (h63 : n + m ≤ maxLen) (hbytes : (n + m) * bytes ≤ 140737488355328) (hbase : base ≤ w.heap.size) (hA : A = none → m = 0 ∧ c = 0)
    (h : ∀ v' w', Pushed base e size v (n + m) (xs ++ news) w v' w' → K (a.put o.dst v') w') : if Region.wanted o (yielded ops a.tmps) = true then Oper.wp P o a w K Q else E := by
  obtain ⟨i, z, ht, hi, hz, hsize, hby, hzs, hsz⟩ := el
  have hw : Region.wanted o (yielded ops a.tmps) = true := by simp [Region.wanted, hgd]
  rw [if_pos hw]
  cases A with
  | none =>
    obtain ⟨rfl, rfl⟩ := hA rfl
    obtain rfl : news = [] := List.eq_nil_of_length_eq_zero (by simpa using hl)
    have hrun := run_append_owned_none (P := P) (w := w) base t o.type e i size ht hi v n xs hown
    unfold Oper.wp
    simp [execOp, ho, resolve, invoke, builtin, hs, hx, hrun, Result.andThen]
    exact h v w ⟨by simpa using hown, World.grownBy.refl _ _⟩
  | some ad =>
    refine wp_append_own _ s x t ho base e i z size bytes ht hi hz hsize hby hzs hsz v n xs hs hown ad m c news hx hl ?_ h1 h63 hbytes hbase (fun v' w' h2 h3 _ => h v' w' ⟨h2, h3⟩)
    intro j u hj
    by_cases hne : news = []
    · subst hne; simp at hj
    · obtain ⟨ad', e1, _, hc⟩ := hr hne
      injection e1 with e1
      subst e1
      exact hc j u hj
theorem step_push_str {t u e : TypeId} {K : Act → World → Prop} {E : Prop} (el : ElT P t e 1 1) (hz : ∀ i, P.info? e = some i → i.zero = some (.int .u8 0)) (hu : P.underlying u = some .string) (hgd : o.guard = none) (s x : Operand) (ho : o.op = .call { callee := .builtin .append, args := #[s, x], argTypes := #[t, u] })
    (base : Nat) (v : Value) (n : Nat) (xs : List Value) (hs : a.eval s = v) (hown : w.ownsRow base e 1 v n xs) (l : List UInt8) (hx : a.eval x = .string (bs l))
    (h63 : n + l.length ≤ maxLen) (hbytes : n + l.length ≤ 140737488355328) (hbase : base ≤ w.heap.size)
    (h : ∀ v' w', Pushed base e 1 v (n + l.length) (xs ++ l.map bv) w v' w' → K (a.put o.dst v') w') : if Region.wanted o (yielded ops a.tmps) = true then Oper.wp P o a w K Q else E := by
  obtain ⟨i, z, ht, hi, hz', hsize, hby, hzs, hsz⟩ := el
  have hw : Region.wanted o (yielded ops a.tmps) = true := by simp [Region.wanted, hgd]
  have hsz2 : (bs l).size = l.length := by simp [ByteArray.size]
  rw [if_pos hw]
  obtain ⟨v', w', hr, h2, h3, h4⟩ := Lib.run_append_own_string (P := P) w base t u o.type e i ht hu hi (hz i hi) hsize hby v n xs hown (bs l) (by rw [hsz2]; exact h63) (by rw [hsz2]; exact hbytes) hbase
  unfold Oper.wp execOp
  simp only [ho, resolve, invoke, builtin, Sem.run_bind, Sem.run_pure, Result.andThen_ok, List.map_toArray, List.map_cons, List.map_nil, hs, hx, hr]
  rw [hsz2] at h2
  exact h v' w' ⟨by simpa [Lib.strCells] using h2, h3⟩
theorem step_push_one {t e : TypeId} {size bytes : Nat} {K : Act → World → Prop} {E : Prop} (el : ElT P t e size bytes) (hgd : o.guard = none) (s x : Operand) (ho : o.op = .call { callee := .builtin .append, args := #[s, x], argTypes := #[t, t] })
    (base : Nat) (v : Value) (n : Nat) (xs : List Value) (hs : a.eval s = v) (hown : w.ownsRow base e size v n xs) (g : Nat) (cs : List Value) (hg : w.heap[g]? = some (.cells cs.toArray e (0, 0))) (hx : a.eval x = .slice (some ⟨g, 0, none⟩) 1 1) (hl : cs.length = size) (h1 : ∀ u ∈ cs, u.oneCell' = true)
    (h63 : n + 1 ≤ maxLen) (hbytes : (n + 1) * bytes ≤ 140737488355328) (hbase : base ≤ w.heap.size)
    (h : ∀ v' w', Pushed base e size v (n + 1) (xs ++ cs) w v' w' → K (a.put o.dst v') w') : if Region.wanted o (yielded ops a.tmps) = true then Oper.wp P o a w K Q else E := by
  refine step_push_row el hgd s x ho base v n xs hs hown (g + 1) (some ⟨g, 0, none⟩) 1 1 cs hx ?_ (by omega) h1 h63 hbytes hbase (fun h => by cases h) h
  intro _
  refine ⟨_, rfl, Nat.lt_succ_self _, fun j u hj => ?_⟩
  have e2 : (⟨g, 0, none⟩ : Addr).add j = ⟨g, j, none⟩ := by
    unfold Addr.add
    by_cases h0 : j = 0 <;> simp [h0]
  rw [e2, cell_of_row w g j _ _ _ hg]
  simpa using hj
end
theorem zeroByte : ∀ i, Try.prog.info? 5 = some i → i.zero = some (.int .u8 0) := fun i h => by
  obtain ⟨j, hj, hz, _⟩ := info_parts infoByte
  obtain rfl : j = i := Option.some.inj (hj.symm.trans h)
  exact hz
end Go.Proofs.Ytlfnpnkpjdmonaa
