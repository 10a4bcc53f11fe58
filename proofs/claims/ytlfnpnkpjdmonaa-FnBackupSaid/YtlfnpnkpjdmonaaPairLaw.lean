import Derived.Test.YtlfnpnkpjdmonaaOrd
set_option linter.unusedVariables false
set_option linter.unusedSimpArgs false
namespace Go.Proofs.Ytlfnpnkpjdmonaa
open Go.RowKit

/-! ### pairs: put, drop, look up, as lists -/
def putR : List Pr → ByteArray → ByteArray → List Pr
  | [], k, v => [(k, v)]
  | p :: l, k, v => if lt p.1 k then p :: putR l k v else if p.1 = k then (k, v) :: l else (k, v) :: p :: l
theorem putP_eq (l : List Pr) (k v : ByteArray) : putP l k v = putR l k v := by
  induction l with
  | nil => rfl
  | cons p l ih =>
    unfold putP at ih ⊢
    simp only [atP, hitP, putR]
    by_cases h1 : lt p.1 k = true
    · simp only [h1, if_true, List.take_succ_cons, List.cons_append]
      rw [← ih]
      congr 3
      split <;> simp
    · by_cases h2 : p.1 = k
      · simp [h1, h2, lt_irr]
      · simp [h1, h2]
theorem mem_putR {l : List Pr} (h : Rise l) (k v : ByteArray) (q : Pr) : q ∈ putR l k v ↔ q = (k, v) ∨ (q ∈ l ∧ q.1 ≠ k) := by
  induction l with
  | nil => simp [putR]
  | cons p l ih =>
    simp only [putR]
    by_cases h1 : lt p.1 k = true
    · have := lt_ne h1
      simp only [h1, if_true, List.mem_cons, ih h.2]
      constructor
      · rintro (rfl | rfl | ⟨h2, h3⟩)
        · exact .inr ⟨.inl rfl, this⟩
        · exact .inl rfl
        · exact .inr ⟨.inr h2, h3⟩
      · rintro (rfl | ⟨rfl | h2, h3⟩)
        · exact .inr (.inl rfl)
        · exact .inl rfl
        · exact .inr (.inr ⟨h2, h3⟩)
    · by_cases h2 : p.1 = k
      · subst h2
        rw [if_neg h1, if_pos rfl]
        simp only [List.mem_cons]
        constructor
        · rintro (rfl | h3)
          · exact .inl rfl
          · exact .inr ⟨.inr h3, (lt_ne (h.1 q h3)).symm⟩
        · rintro (rfl | ⟨rfl | h3, h4⟩)
          · exact .inl rfl
          · exact absurd rfl h4
          · exact .inr h3
      · have h1' : lt p.1 k = false := by simpa using h1
        have h3 : lt k p.1 = true := by
          cases h4 : lt k p.1 with
          | true => rfl
          | false => exact absurd (lt_tri h1' h4) h2
        rw [if_neg h1, if_neg h2]
        simp only [List.mem_cons]
        constructor
        · rintro (rfl | rfl | h5)
          · exact .inl rfl
          · exact .inr ⟨.inl rfl, h2⟩
          · exact .inr ⟨.inr h5, (lt_ne (lt_trans h3 (h.1 q h5))).symm⟩
        · rintro (rfl | ⟨rfl | h5, _⟩)
          · exact .inl rfl
          · exact .inr (.inl rfl)
          · exact .inr (.inr h5)
theorem rise_putR {l : List Pr} (h : Rise l) (k v : ByteArray) : Rise (putR l k v) := by
  induction l with
  | nil =>
    show (∀ q ∈ ([] : List Pr), lt k q.1 = true) ∧ True
    simp
  | cons p l ih =>
    simp only [putR]
    by_cases h1 : lt p.1 k = true
    · rw [if_pos h1]
      refine ⟨fun q hq => ?_, ih h.2⟩
      rcases (mem_putR h.2 k v q).1 hq with rfl | ⟨h2, _⟩
      · exact h1
      · exact h.1 q h2
    · by_cases h2 : p.1 = k
      · subst h2
        rw [if_neg h1, if_pos rfl]
        exact ⟨fun q hq => h.1 q hq, h.2⟩
      · have h1' : lt p.1 k = false := by simpa using h1
        have h3 : lt k p.1 = true := by
          cases h4 : lt k p.1 with
          | true => rfl
          | false => exact absurd (lt_tri h1' h4) h2
        rw [if_neg h1, if_neg h2]
        refine ⟨fun q hq => ?_, h⟩
        rcases List.mem_cons.1 hq with rfl | h5
        · exact h3
        · exact lt_trans h3 (h.1 q h5)
theorem len_putR (l : List Pr) (k v : ByteArray) : (putR l k v).length ≤ l.length + 1 := by
  induction l with
  | nil => simp [putR]
  | cons p l ih =>
    simp only [putR]
    split
    · simp; omega
    · split <;> simp
theorem mem_putP {l : List Pr} (h : Rise l) (k v : ByteArray) (q : Pr) : q ∈ putP l k v ↔ q = (k, v) ∨ (q ∈ l ∧ q.1 ≠ k) := by rw [putP_eq]; exact mem_putR h k v q
theorem rise_putP {l : List Pr} (h : Rise l) (k v : ByteArray) : Rise (putP l k v) := by rw [putP_eq]; exact rise_putR h k v
theorem len_putP (l : List Pr) (k v : ByteArray) : (putP l k v).length ≤ l.length + 1 := by rw [putP_eq]; exact len_putR l k v
theorem rise_filter {l : List Pr} (h : Rise l) (f : Pr → Bool) : Rise (l.filter f) := by
  induction l with
  | nil => exact trivial
  | cons p l ih =>
    rw [List.filter_cons]
    split
    · exact ⟨fun q hq => h.1 q ((List.mem_filter.1 hq).1), ih h.2⟩
    · exact ih h.2
theorem mem_dropP (l : List Pr) (k : ByteArray) (q : Pr) : q ∈ dropP l k ↔ q ∈ l ∧ q.1 ≠ k := by simp [dropP]
theorem rise_dropP {l : List Pr} (h : Rise l) (k : ByteArray) : Rise (dropP l k) := rise_filter h _
/-- the value that stands at the place of a key -/
def valP (l : List Pr) (k : ByteArray) : ByteArray := if h : atP l k < l.length then l[atP l k].2 else .empty
theorem hit_of_mem {l : List Pr} (h : Rise l) {q : Pr} (hq : q ∈ l) : hitP l q.1 = true ∧ l[atP l q.1]? = some q := by
  induction l with
  | nil => cases hq
  | cons p l ih =>
    simp only [hitP, atP]
    rcases List.mem_cons.1 hq with rfl | h2
    · simp [lt_irr]
    · have h3 := h.1 q h2
      simp only [h3, if_true, List.getElem?_cons_succ]
      exact ih h.2 h2
theorem val_of_mem {l : List Pr} (h : Rise l) {q : Pr} (hq : q ∈ l) : valP l q.1 = q.2 := by
  have h1 := (hit_of_mem h hq).2
  obtain ⟨h2, h3⟩ := List.getElem?_eq_some_iff.1 h1
  rw [valP, dif_pos h2, h3]
theorem mem_of_hit {l : List Pr} {k : ByteArray} (h : hitP l k = true) : ∃ h : atP l k < l.length, l[atP l k].1 = k := by
  have h2 := hitP_eq l k
  rw [h] at h2
  split at h2
  · exact ⟨by assumption, of_decide_eq_true h2.symm⟩
  · cases h2
theorem miss_of {l : List Pr} {k : ByteArray} (h : ∀ q ∈ l, q.1 ≠ k) : hitP l k = false := by
  cases hh : hitP l k with
  | false => rfl
  | true =>
    obtain ⟨h1, h2⟩ := mem_of_hit hh
    exact absurd h2 (h _ (List.getElem_mem h1))
theorem ne_of_miss {l : List Pr} (h : Rise l) {k : ByteArray} (hm : hitP l k = false) : ∀ q ∈ l, q.1 ≠ k := by
  rintro q hq rfl
  rw [(hit_of_mem h hq).1] at hm
  cases hm
theorem dropP_miss {l : List Pr} (h : Rise l) {k : ByteArray} (hm : hitP l k = false) : dropP l k = l := by
  unfold dropP
  exact List.filter_eq_self.2 fun q hq => decide_eq_true (ne_of_miss h hm q hq)
theorem dropP_hit {l : List Pr} (h : Rise l) {k : ByteArray} (hh : hitP l k = true) : dropP l k = l.take (atP l k) ++ l.drop (atP l k + 1) := by
  induction l with
  | nil => cases hh
  | cons p l ih =>
    simp only [hitP, atP] at hh ⊢
    by_cases h1 : lt p.1 k = true
    · simp only [h1, if_true] at hh ⊢
      have h2 := lt_ne h1
      have h3 := ih h.2 hh
      unfold dropP at h3 ⊢
      rw [List.filter_cons, if_pos (decide_eq_true h2), h3]
      simp
    · simp only [h1] at hh ⊢
      have h2 : p.1 = k := by simpa using hh
      subst h2
      unfold dropP
      rw [List.filter_cons, if_neg (by simp)]
      simp only [Bool.false_eq_true, if_false, List.take_zero, List.nil_append, Nat.zero_add, List.drop_succ_cons, List.drop_zero]
      exact List.filter_eq_self.2 fun q hq => decide_eq_true (lt_ne (h.1 q hq)).symm
end Go.Proofs.Ytlfnpnkpjdmonaa
