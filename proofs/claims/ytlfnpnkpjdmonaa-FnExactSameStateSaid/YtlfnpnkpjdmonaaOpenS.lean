import Derived.Test.YtlfnpnkpjdmonaaPairs
import Derived.Test.YtlfnpnkpjdmonaaOpen
import Derived.Deep.Slices
import Derived.Deep.Fields
import Derived.ChangeSame
set_option linter.unusedVariables false
set_option linter.unusedSimpArgs false
namespace Go.Proofs.Ytlfnpnkpjdmonaa
open Go.ChangeShapes Go.WideShapes Go.ChangeAt Go.RowKit Go.Deep

/-! ### arguments that are slices of structs, opened -/
theorem choose_list {α : Type} {P : Nat → α → Prop} : ∀ n : Nat, (∀ i, i < n → ∃ x, P i x) → ∃ l : List α, l.length = n ∧ ∀ i (h : i < l.length), P i l[i]
  | 0, _ => ⟨[], rfl, fun i h => by simp at h⟩
  | n + 1, h => by
    obtain ⟨l, hl, hp⟩ := choose_list n fun i hi => h i (by omega)
    obtain ⟨x, hx⟩ := h n (by omega)
    refine ⟨l ++ [x], by simp [hl], fun i hi => ?_⟩
    rcases Nat.lt_or_ge i l.length with h1 | h1
    · rw [List.getElem_append_left h1]; exact hp i h1
    · obtain rfl : i = n := by simp at hi; omega
      rw [List.getElem_append_right h1]
      simpa [hl] using hx
section
variable {H : Type} {enc : TypeId × Value → H} {P : Program} {w : World} {base : Nat} {spare : Nat → Bool} {held : Bool}
theorem open_slice_fields {t e : TypeId} {fs : Array Field} {fuel : Nat} {cs : List Value} {x : DataW H × List MemPlace} (ht : P.underlying t = some (.slice e)) (he : P.underlying e = some (.struct fs))
    (hone : oneCellFields P fs = true) (hC : P.cellsOf e = fs.size) (h : DataW.trod enc P w base spare held fuel t cs = some x) :
    (cs = [.slice none 0 0] ∧ x = (.nil, [])) ∨
    ∃ (a : Addr) (len cap m : Nat), cs = [.slice (some a) len cap] ∧ len ≤ cap ∧ cap ≤ maxLen ∧ m = (if spare a.block then cap else len) ∧
      ∀ i, i < m → ∃ (n : Nat),
        ∀ (j : Nat) (f : Field), fs[j]? = some f → ∃ (v : Value) (y : DataW H × List MemPlace), w.cell? (a.add (i * fs.size + j)) = some v ∧ DataW.trod enc P w base spare held n f.type [v] = some y := by
  rcases open_slice ht h with h0 | ⟨a, len, cap, m, n, D, Pl, hcs, hb, hl, hm, hmm, hx, hi⟩
  · exact .inl h0
  · refine .inr ⟨a, len, cap, m, hcs, hl, hm, hmm, fun i him => ?_⟩
    obtain ⟨cs', hc, ht'⟩ := hi i him
    rw [hC] at hc
    obtain ⟨ys, n', hn', hy, hlen, hyl, hf⟩ := DataW.trod_struct he ht'
    obtain ⟨_, hcl, hat⟩ := World.cells?_some hc
    refine ⟨n', fun j f hj => ?_⟩
    obtain ⟨ho, hk⟩ := hone_of hone j f hj
    have hjl : j < fs.size := (Array.getElem?_eq_some_iff.1 hj).1
    have hcell := hat j hjl
    have hv : cs'[j]? = some (cs'[j]'(by omega)) := List.getElem?_eq_getElem (by omega)
    have h1 := hf j f hj
    rw [ho, hk] at h1
    have hone' : (cs'.drop j).take 1 = [cs'[j]'(by omega)] := by
      rw [List.drop_eq_getElem_cons (by omega)]
      rfl
    rw [hone'] at h1
    have hys : ys[j]? = some (ys[j]'(by omega)) := List.getElem?_eq_getElem (by omega)
    refine ⟨_, _, ?_, h1.trans hys⟩
    rw [← Go.Deep.add_add, hcell, hv]
theorem open_rows {α : Type} {en : α → List Value} {good : α → Prop} {t e : TypeId} {fs : Array Field} {fuel : Nat} {v : Value} {x : DataW H × List MemPlace} (ht : P.underlying t = some (.slice e)) (he : P.underlying e = some (.struct fs))
    (hone : oneCellFields P fs = true) (hC : P.cellsOf e = fs.size) (hpos : 0 < fs.size)
    (hel : ∀ (n : Nat) (g : Nat → Value), (∀ (j : Nat) (f : Field), fs[j]? = some f → ∃ y, DataW.trod enc P w 0 (fun _ => true) held n f.type [g j] = some y) → ∃ x : α, good x ∧ (en x).length = fs.size ∧ ∀ j u, (en x)[j]? = some u → g j = u)
    (hsz : ∀ x, (en x).length = fs.size)
    (h : DataW.trod enc P w 0 (fun _ => true) held fuel t [v] = some x) :
    ∃ (A : Option Addr) (c : Nat) (xs : List α), v = .slice A xs.length c ∧ Rd w w.heap.size A (flat en xs) ∧ xs.length ≤ maxLen ∧ ∀ x ∈ xs, good x := by
  rcases open_slice_fields ht he hone hC h with ⟨hcs, _⟩ | ⟨a, len, cap, m, hcs, hl, hm, hmm, hi⟩
  · simp only [List.cons.injEq, and_true] at hcs
    exact ⟨none, 0, [], hcs, Rd.nil _ _ _, Nat.zero_le _, by simp⟩
  · simp only [List.cons.injEq, and_true] at hcs
    simp only [if_true] at hmm
    subst hmm
    have hex : ∀ i, i < len → ∃ x : α, good x ∧ ∀ j u, (en x)[j]? = some u → w.cell? (a.add (i * fs.size + j)) = some u := by
      intro i hil
      obtain ⟨n, hf⟩ := hi i (by omega)
      have hg : ∀ j, ∃ v : Value, ∀ f, fs[j]? = some f → w.cell? (a.add (i * fs.size + j)) = some v ∧ ∃ y, DataW.trod enc P w 0 (fun _ => true) held n f.type [v] = some y := by
        intro j
        cases hj : fs[j]? with
        | none => exact ⟨.bool false, fun f hf => by cases hf⟩
        | some f =>
          obtain ⟨v, y, h1, h2⟩ := hf j f hj
          exact ⟨v, fun f' hf' => by injection hf' with e; subst e; exact ⟨h1, y, h2⟩⟩
      obtain ⟨g, hg⟩ := Classical.axiomOfChoice hg
      obtain ⟨x, hx1, hx2, hx3⟩ := hel n g fun j f hj => (hg j f hj).2
      refine ⟨x, hx1, fun j u hu => ?_⟩
      have hjl : j < fs.size := by
        have := (List.getElem?_eq_some_iff.1 hu).1
        omega
      rw [← hx3 j u hu]
      exact (hg j fs[j] (Array.getElem?_eq_getElem hjl)).1
    obtain ⟨xs, hlen, hp⟩ := choose_list len hex
    refine ⟨some a, m, xs, by rw [hlen]; exact hcs, fun hne => ?_, by omega, fun x hx => ?_⟩
    · have hcell : ∀ j u, (flat en xs)[j]? = some u → w.cell? (a.add j) = some u := by
        intro j u hu
        have hj := (List.getElem?_eq_some_iff.1 hu).1
        rw [flat_length hsz] at hj
        have hq : j / fs.size < xs.length := by rw [Nat.div_lt_iff_lt_mul hpos]; exact hj
        have hr : j % fs.size < fs.size := Nat.mod_lt _ hpos
        have hjj : j / fs.size * fs.size + j % fs.size = j := by have := Nat.div_add_mod j fs.size; rw [Nat.mul_comm] at this; exact this
        have hu2 : (en xs[j / fs.size])[j % fs.size]? = some u := by
          have hv : (en xs[j / fs.size])[j % fs.size]? = some ((en xs[j / fs.size])[j % fs.size]'(by rw [hsz]; exact hr)) := List.getElem?_eq_getElem _
          have h2 := flat_get hsz (List.getElem?_eq_getElem hq) hv
          rw [hjj, hu] at h2
          rw [hv, ← h2]
        have h3 := (hp _ hq).2 _ _ hu2
        rwa [hjj] at h3
      have hb : a.block < w.heap.size := by
        have hne' : 0 < (flat en xs).length := List.length_pos_iff.2 hne
        have h0 := hcell 0 _ (List.getElem?_eq_getElem hne')
        have := block_lt_of_cell h0
        rwa [add_block] at this
      exact ⟨a, rfl, hb, hcell⟩
    · obtain ⟨i, hi', rfl⟩ := List.mem_iff_getElem.1 hx
      exact (hp i hi').1
end

theorem cellsPair : Try.prog.cellsOf 188 = 2 := by kernel_rfl
set_option maxRecDepth 100000 in
theorem open_pairs {H : Type} {enc : TypeId × Value → H} {W : World} {held : Bool} {n : Nat} {v : Value} {y : DataW H × List MemPlace} (h : DataW.trod enc Try.prog W 0 (fun _ => true) held n 53 [v] = some y) :
    ∃ (A : Option Addr) (c : Nat) (xs : List Pr), v = .slice A xs.length c ∧ Rd W W.heap.size A (flat encP xs) ∧ xs.length ≤ maxLen ∧ ∀ p ∈ xs, p.1.size ≤ maxLen ∧ p.2.size ≤ maxLen := by
  refine open_rows (en := encP) Try.underlying53 Try.underlying188 (by kernel_rfl) cellsPair (by simp) (fun n g hg => ?_) (fun _ => rfl) h
  obtain ⟨y0, h0⟩ := hg 0 _ rfl
  obtain ⟨y1, h1⟩ := hg 1 _ rfl
  obtain ⟨s0, e0, _, l0⟩ := DataW.trod_string Try.underlying9 h0
  obtain ⟨s1, e1, _, l1⟩ := DataW.trod_string Try.underlying9 h1
  simp only [List.cons.injEq, and_true] at e0 e1
  refine ⟨(s0, s1), ⟨l0, l1⟩, rfl, fun j u hu => ?_⟩
  match j, hu with
  | 0, hu => simp [encP] at hu; rw [e0, hu]
  | 1, hu => simp [encP] at hu; rw [e1, hu]
end Go.Proofs.Ytlfnpnkpjdmonaa
