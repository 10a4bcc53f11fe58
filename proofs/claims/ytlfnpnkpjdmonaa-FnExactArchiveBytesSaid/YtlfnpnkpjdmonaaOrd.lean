import Derived.Test.YtlfnpnkpjdmonaaPairs
import Derived.Lib.Bytealg
set_option linter.unusedVariables false
set_option linter.unusedSimpArgs false
namespace Go.Proofs.Ytlfnpnkpjdmonaa
open Go.RowKit

/-! ### the order of texts -/
theorem less_irr : ∀ x : List UInt8, Op.bytesLess x x = false
  | [] => rfl
  | a :: x => by simp [Op.bytesLess, less_irr x]
theorem less_trans : ∀ x y z : List UInt8, Op.bytesLess x y = true → Op.bytesLess y z = true → Op.bytesLess x z = true
  | _, [], _, h, _ => by simp [Op.bytesLess] at h
  | _, _ :: _, [], _, h => by simp [Op.bytesLess] at h
  | [], _ :: _, _ :: _, _, _ => rfl
  | a :: x, b :: y, c :: z, h, k => by
    simp only [Op.bytesLess, Bool.or_eq_true, decide_eq_true_eq, Bool.and_eq_true, beq_iff_eq] at h k ⊢
    rcases h with h | ⟨rfl, h⟩ <;> rcases k with k | ⟨rfl, k⟩
    · exact .inl (UInt8.lt_trans h k)
    · exact .inl h
    · exact .inl k
    · exact .inr ⟨rfl, less_trans x y z h k⟩
theorem less_tri : ∀ x y : List UInt8, Op.bytesLess x y = false → Op.bytesLess y x = false → x = y
  | [], [], _, _ => rfl
  | [], _ :: _, h, _ => by simp [Op.bytesLess] at h
  | _ :: _, [], _, h => by simp [Op.bytesLess] at h
  | a :: x, b :: y, h, k => by
    simp only [Op.bytesLess, Bool.or_eq_false_iff, decide_eq_false_iff_not, Bool.and_eq_false_iff, beq_eq_false_iff_ne] at h k
    have e : a = b := UInt8.le_antisymm (UInt8.not_lt.1 k.1) (UInt8.not_lt.1 h.1)
    subst e
    have h2 := h.2.resolve_left (by simp)
    have k2 := k.2.resolve_left (by simp)
    rw [less_tri x y h2 k2]
theorem compare_lt : ∀ x y : List UInt8, Lib.compareBytes x y < 0 ↔ Op.bytesLess x y = true
  | [], [] => by simp [Lib.compareBytes, Op.bytesLess]
  | [], _ :: _ => by simp [Lib.compareBytes, Op.bytesLess]
  | _ :: _, [] => by simp [Lib.compareBytes, Op.bytesLess]
  | a :: x, b :: y => by
    have ih := compare_lt x y
    simp only [Lib.compareBytes, Op.bytesLess, Bool.or_eq_true, decide_eq_true_eq, Bool.and_eq_true, beq_iff_eq]
    split
    · rename_i h1; simp [h1]
    · rename_i h1
      split
      · rename_i h2
        have hne : a ≠ b := by rintro rfl; exact h1 h2
        simp [h1, hne]
      · rename_i h2
        have e : a = b := UInt8.le_antisymm (UInt8.not_lt.1 h2) (UInt8.not_lt.1 h1)
        subst e
        rw [ih]
        simp [h1]
theorem compare_eq : ∀ x y : List UInt8, Lib.compareBytes x y = 0 ↔ x = y
  | [], [] => by simp [Lib.compareBytes]
  | [], _ :: _ => by simp [Lib.compareBytes]
  | _ :: _, [] => by simp [Lib.compareBytes]
  | a :: x, b :: y => by
    have ih := compare_eq x y
    simp only [Lib.compareBytes]
    split
    · rename_i h1
      have hne : a ≠ b := by rintro rfl; exact absurd h1 (UInt8.lt_irrefl _)
      simp [hne]
    · rename_i h1
      split
      · rename_i h2
        have hne : a ≠ b := by rintro rfl; exact h1 h2
        simp [hne]
      · rename_i h2
        have e : a = b := UInt8.le_antisymm (UInt8.not_lt.1 h2) (UInt8.not_lt.1 h1)
        subst e
        rw [ih]
        simp
theorem compare_range : ∀ x y : List UInt8, -1 ≤ Lib.compareBytes x y ∧ Lib.compareBytes x y ≤ 1
  | [], [] => by simp [Lib.compareBytes]
  | [], _ :: _ => by simp [Lib.compareBytes]
  | _ :: _, [] => by simp [Lib.compareBytes]
  | a :: x, b :: y => by
    have ih := compare_range x y
    simp only [Lib.compareBytes]
    split
    · simp
    · split
      · simp
      · exact ih
/-- a text comes ahead of another -/
def lt (a b : ByteArray) : Bool := Op.bytesLess a.toList b.toList
theorem lt_irr (a : ByteArray) : lt a a = false := less_irr _
theorem lt_trans {a b c : ByteArray} (h : lt a b = true) (k : lt b c = true) : lt a c = true := less_trans _ _ _ h k
theorem lt_tri {a b : ByteArray} (h : lt a b = false) (k : lt b a = false) : a = b := by
  have e := less_tri _ _ h k
  exact bytes_of_eq (by simp [e])
theorem lt_asymm {a b : ByteArray} (h : lt a b = true) : lt b a = false := by
  cases k : lt b a with
  | false => rfl
  | true => have := lt_trans h k; rw [lt_irr] at this; cases this
theorem lt_ne {a b : ByteArray} (h : lt a b = true) : a ≠ b := by rintro rfl; rw [lt_irr] at h; cases h
theorem le_lt {a b c : ByteArray} (h : lt b a = false) (k : lt b c = true) : lt a c = true := by
  cases hab : lt a b with
  | true => exact lt_trans hab k
  | false => rw [lt_tri hab h]; exact k
theorem lt_le {a b c : ByteArray} (h : lt a b = true) (k : lt c b = false) : lt a c = true := by
  cases hbc : lt b c with
  | true => exact lt_trans h hbc
  | false => rw [lt_tri k hbc]; exact h

/-! ### pairs: what the document says of them, as lists -/
def pairB (p : Pr) : Bool := decide (1 ≤ p.1.size ∧ p.1.size ≤ 30) && decide (p.2.size ≤ 90)
/-- they rise by their keys -/
def Rise : List Pr → Prop
  | [] => True
  | p :: l => (∀ q ∈ l, lt p.1 q.1 = true) ∧ Rise l
theorem Rise.tail {p : Pr} {l : List Pr} (h : Rise (p :: l)) : Rise l := h.2
/-- where a key stands, or would stand -/
def atP : List Pr → ByteArray → Nat
  | [], _ => 0
  | p :: l, k => if lt p.1 k then atP l k + 1 else 0
def hitP : List Pr → ByteArray → Bool
  | [], _ => false
  | p :: l, k => if lt p.1 k then hitP l k else decide (p.1 = k)
theorem atP_le (l : List Pr) (k : ByteArray) : atP l k ≤ l.length := by
  induction l with
  | nil => simp [atP]
  | cons p l ih => simp only [atP]; split <;> simp <;> omega
theorem atP_below (l : List Pr) (k : ByteArray) : ∀ i (h : i < l.length), i < atP l k → lt l[i].1 k = true := by
  induction l with
  | nil => intro i h; simp at h
  | cons p l ih =>
    intro i h hi
    simp only [atP] at hi
    split at hi
    · rename_i hp
      cases i with
      | zero => exact hp
      | succ i => exact ih i (by simpa using h) (by omega)
    · omega
theorem Rise.at {l : List Pr} (h : Rise l) : ∀ i j (hi : i < l.length) (hj : j < l.length), i < j → lt l[i].1 l[j].1 = true := by
  induction l with
  | nil => intro i j hi; simp at hi
  | cons p l ih =>
    intro i j hi hj hij
    cases j with
    | zero => omega
    | succ j =>
      cases i with
      | zero => exact h.1 _ (List.getElem_mem _)
      | succ i => exact ih h.2 i j (by simpa using hi) (by simpa using hj) (by omega)
theorem atP_above {l : List Pr} (h : Rise l) (k : ByteArray) : ∀ i (hi : i < l.length), atP l k ≤ i → lt l[i].1 k = false := by
  induction l with
  | nil => intro i hi; simp at hi
  | cons p l ih =>
    intro i hi ha
    simp only [atP] at ha
    split at ha
    · cases i with
      | zero => omega
      | succ i => exact ih h.2 i (by simpa using hi) (by omega)
    · rename_i hp
      cases i with
      | zero => simpa using hp
      | succ i =>
        have hi' : i < l.length := by simpa using hi
        have h1 := h.1 l[i] (List.getElem_mem hi')
        show lt l[i].1 k = false
        cases h2 : lt l[i].1 k with
        | false => rfl
        | true => exact absurd (lt_trans h1 h2) (by simpa using hp)
theorem hitP_eq (l : List Pr) (k : ByteArray) : hitP l k = if h : atP l k < l.length then decide (l[atP l k].1 = k) else false := by
  induction l with
  | nil => rfl
  | cons p l ih =>
    simp only [hitP, atP]
    by_cases hp : lt p.1 k = true
    · simp only [hp, if_true, List.length_cons, Nat.add_lt_add_iff_right, List.getElem_cons_succ]
      exact ih
    · simp only [hp, Bool.false_eq_true, if_false]
      simp
/-- the place found by halving: any place with smaller ones below and no smaller ones from there on -/
theorem atP_unique {l : List Pr} (h : Rise l) (k : ByteArray) {m : Nat} (hm : m ≤ l.length) (h1 : ∀ i (hi : i < l.length), i < m → lt l[i].1 k = true) (h2 : ∀ i (hi : i < l.length), m ≤ i → lt l[i].1 k = false) : m = atP l k := by
  have ha := atP_le l k
  rcases Nat.lt_trichotomy m (atP l k) with hlt | he | hgt
  · have hi : m < l.length := by omega
    have := atP_below l k m hi hlt
    rw [h2 m hi (Nat.le_refl _)] at this
    cases this
  · exact he
  · have hi : atP l k < l.length := by omega
    have := atP_above h k _ hi (Nat.le_refl _)
    rw [h1 _ hi hgt] at this
    cases this
/-- put, drop -/
def putP (l : List Pr) (k v : ByteArray) : List Pr := l.take (atP l k) ++ (k, v) :: l.drop (if hitP l k then atP l k + 1 else atP l k)
def dropP (l : List Pr) (k : ByteArray) : List Pr := l.filter fun p => decide (p.1 ≠ k)
end Go.Proofs.Ytlfnpnkpjdmonaa
