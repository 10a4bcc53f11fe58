import Derived.WalkKit
import Derived.Below
import Derived.Deep.Draws
import Derived.Deep.AppendLies
import Derived.Maps.AppendAt
import Derived.OwnWalk
import Derived.RegionTactic
import Derived.Laws.Rows
import Derived.Laws.OwnMore
import Derived.Lib.Hide
set_option linter.unusedVariables false
set_option linter.unusedSimpArgs false
namespace Go.Proofs.Ytlfnpnkpjdmonaa
open Go.RowKit

/-! ### endings -/
theorem ret_b {a b : Bool} (h : a = true ↔ b = true) : Ending.returned (.bool a) = .returned (.bool b) := by rw [Bool.eq_iff_iff.2 h]
theorem ret_i {k : IntKind} {a b : Int} (h : a = b) : Ending.returned (.int k a) = .returned (.int k b) := by rw [h]

/-! ### addresses and lists of cells -/
theorem add_block (a : Addr) (n : Nat) : (a.add n).block = a.block := by unfold Addr.add; split <;> rfl
theorem add_assoc' (a : Addr) (i j : Nat) : (a.add i).add j = a.add (i + j) := by
  unfold Addr.add
  by_cases hi : i = 0 <;> by_cases hj : j = 0 <;> simp [hi, hj, Nat.add_assoc]

/-- The cells of a list of things, one behind the other. -/
def flat {α : Type} (enc : α → List Value) (l : List α) : List Value := l.flatMap enc
section
variable {α : Type} {enc : α → List Value} {k : Nat}
theorem flat_nil : flat enc [] = [] := rfl
theorem flat_cons (x : α) (l : List α) : flat enc (x :: l) = enc x ++ flat enc l := by simp [flat]
theorem flat_append (l m : List α) : flat enc (l ++ m) = flat enc l ++ flat enc m := by simp [flat]
theorem flat_length (hk : ∀ x, (enc x).length = k) (l : List α) : (flat enc l).length = l.length * k := by
  induction l with
  | nil => simp [flat]
  | cons x l ih => rw [flat_cons, List.length_append, ih, hk, List.length_cons, Nat.add_mul, Nat.one_mul, Nat.add_comm]
theorem flat_get (hk : ∀ x, (enc x).length = k) {l : List α} {i j : Nat} {x : α} {u : Value} (h : l[i]? = some x) (hu : (enc x)[j]? = some u) : (flat enc l)[i * k + j]? = some u := by
  induction l generalizing i with
  | nil => simp at h
  | cons y l ih =>
    rw [flat_cons]
    cases i with
    | zero =>
      simp at h
      subst h
      rw [Nat.zero_mul, Nat.zero_add, List.getElem?_append_left (List.getElem?_eq_some_iff.1 hu).1]
      exact hu
    | succ i =>
      simp at h
      rw [List.getElem?_append_right (by rw [hk, Nat.add_mul]; omega), hk, show (i + 1) * k + j - k = i * k + j from by rw [Nat.add_mul]; omega]
      exact ih h
end

/-! ### what is read -/
/-- The cells xs lie at A, below block B. -/
def Rd (w : World) (B : Nat) (A : Option Addr) (xs : List Value) : Prop :=
  xs ≠ [] → ∃ ad, A = some ad ∧ ad.block < B ∧ ∀ j u, xs[j]? = some u → w.cell? (ad.add j) = some u
section
variable {w w' : World} {B B' : Nat} {A : Option Addr} {xs : List Value}
theorem Rd.nil (w : World) (B : Nat) (A : Option Addr) : Rd w B A [] := fun h => absurd rfl h
theorem Rd.keep (h : Rd w B A xs) (hk : ∀ p : Addr, p.block < B → w'.cell? p = w.cell? p) : Rd w' B A xs := fun hn => by
  obtain ⟨ad, e, hb, hc⟩ := h hn
  exact ⟨ad, e, hb, fun j u hu => (hk _ (by rw [add_block]; exact hb)).trans (hc j u hu)⟩
theorem Rd.more (h : Rd w B A xs) (hB : B ≤ B') : Rd w B' A xs := fun hn => by
  obtain ⟨ad, e, hb, hc⟩ := h hn
  exact ⟨ad, e, by omega, hc⟩
theorem Rd.below (h : Rd w B A xs) (hb : Below B w w') : Rd w' B A xs := h.keep fun _ hp => hb.cell hp
theorem Rd.next (h : Rd w w.heap.size A xs) (hb : Below w.heap.size w w') : Rd w' w'.heap.size A xs := (h.below hb).more hb.size
theorem Rd.at_ (h : Rd w B A xs) {i : Nat} {u : Value} (hu : xs[i]? = some u) : ∃ ad, A = some ad ∧ ad.block < B ∧ w.cell? (ad.add i) = some u := by
  obtain ⟨ad, e, hb, hc⟩ := h (by rintro rfl; simp at hu)
  exact ⟨ad, e, hb, hc _ _ hu⟩
theorem Rd.cut (h : Rd w B A xs) (c : Nat) (P : Prop) [Decidable P] (hP : P → xs.length ≤ c) : Rd w B (if P then A else A.map (·.add c)) (xs.drop c) := fun hn => by
  have hlt : c < xs.length := by
    rcases Nat.lt_or_ge c xs.length with h1 | h1
    · exact h1
    · exact absurd (List.drop_eq_nil_of_le h1) hn
  obtain ⟨ad, rfl, hb, hc⟩ := h (by rintro rfl; simp at hlt)
  rw [if_neg (fun hp => by have := hP hp; omega)]
  refine ⟨ad.add c, rfl, by rw [add_block]; exact hb, fun j u hu => ?_⟩
  rw [add_assoc']
  exact hc _ u (by rw [← hu, List.getElem?_drop])
theorem Rd.take (h : Rd w B A xs) (c : Nat) : Rd w B A (xs.take c) := fun hn => by
  obtain ⟨ad, e, hb, hc⟩ := h (by rintro rfl; simp at hn)
  refine ⟨ad, e, hb, fun j u hu => hc j u ?_⟩
  rw [List.getElem?_take] at hu
  split at hu
  · exact hu
  · cases hu
theorem Rd.own {base : Nat} {e : TypeId} {size n c : Nat} (h : w.ownsRow base e size (.slice A n c) n xs) : Rd w w.heap.size A xs := fun hn => by
  rcases h.2 with ⟨hv, hn0⟩ | ⟨g, cap, cur, hv, hb, hg, hrest⟩
  · subst hn0
    exact absurd (List.eq_nil_of_length_eq_zero (by simpa using h.1)) hn
  · injection hv with hA _ _
    subst hA
    exact ⟨_, rfl, (Array.getElem?_eq_some_iff.1 hg).1, h.cells (g := g) rfl⟩
theorem own_form {base : Nat} {e : TypeId} {size n : Nat} {v : Value} (h : w.ownsRow base e size v n xs) : ∃ A c, v = .slice A n c ∧ n ≤ c := by
  rcases h.2 with ⟨rfl, rfl⟩ | ⟨g, cap, cur, rfl, _, _, hc, _⟩
  · exact ⟨_, _, rfl, Nat.le_refl _⟩
  · exact ⟨_, _, rfl, hc⟩
end

/-! ### worlds one behind the other -/
theorem below_after {w w1 w2 : World} (h : Below w.heap.size w w1) (k : Below w1.heap.size w1 w2) : Below w.heap.size w w2 := h.trans (k.mono h.size)
theorem own_below {w w1 : World} {base : Nat} {e : TypeId} {size n : Nat} {v : Value} {xs : List Value} (h : w.ownsRow base e size v n xs) (hb : Below w.heap.size w w1) : w1.ownsRow base e size v n xs :=
  h.kept (row := none) ⟨hb.os, hb.tape, hb.output, hb.size, fun k hk _ => hb.block k hk⟩ (by cases v.ownBlock <;> simp)
theorem own_mono {w : World} {base base' : Nat} {e : TypeId} {size n : Nat} {v : Value} {xs : List Value} (h : w.ownsRow base e size v n xs) (hb : base' ≤ base) : w.ownsRow base' e size v n xs := by
  refine ⟨h.1, h.2.imp id ?_⟩
  rintro ⟨g, cap, cur, rfl, hg, hrest⟩
  exact ⟨g, cap, cur, rfl, by omega, hrest⟩
/-- What a call wrote into one row of its caller's, and what it made. -/
theorem below_grown {w w1 : World} {base : Nat} (row : Option Nat) (hg : w.grownBy w1 row) (hb : base ≤ w.heap.size) (hr : ∀ k, row = some k → base ≤ k) : Below base w w1 :=
  ⟨hg.os, hg.tape, hg.output, hg.size, fun k hk => hg.block k (by omega) (fun e => by have := hr k e.symm; omega)⟩
theorem grown_after {w w1 w2 : World} {row : Option Nat} (h : w.grownBy w1 row) (k : w1.grownBy w2 row) : w.grownBy w2 row :=
  ⟨k.os.trans h.os, k.tape.trans h.tape, k.output.trans h.output, Nat.le_trans h.size k.size, fun i hi hne => (k.block i (Nat.lt_of_lt_of_le hi h.size) hne).trans (h.block i hi hne)⟩
theorem grown_below {w w1 : World} (hb : Below w.heap.size w w1) (row : Option Nat) : w.grownBy w1 row := ⟨hb.os, hb.tape, hb.output, hb.size, fun k hk _ => hb.block k hk⟩
theorem below_drewN {B : Nat} {a w : World} (h : Below B a w) (n : Nat) : Below B a (w.drewN n) := ⟨h.os, h.tape, h.output, h.size, h.block⟩
/-- Of what there was, only the rows of S may have turned. -/
structure Wr (w w' : World) (S : List (Option Nat)) : Prop where
  os : w'.os = w.os
  tape : w'.tape = w.tape
  output : w'.output = w.output
  size : w.heap.size ≤ w'.heap.size
  block : ∀ k, k < w.heap.size → some k ∉ S → w'.heap[k]? = w.heap[k]?
section
variable {w w1 w2 : World} {S : List (Option Nat)}
theorem Wr.refl (w : World) (S : List (Option Nat)) : Wr w w S := ⟨rfl, rfl, rfl, Nat.le_refl _, fun _ _ _ => rfl⟩
theorem Wr.of_below (h : Below w.heap.size w w1) (S : List (Option Nat)) : Wr w w1 S := ⟨h.os, h.tape, h.output, h.size, fun k hk _ => h.block k hk⟩
theorem Wr.of_grown {r : Option Nat} (h : w.grownBy w1 r) (hr : r ∈ S) : Wr w w1 S := ⟨h.os, h.tape, h.output, h.size, fun k hk hn => h.block k hk (fun e => hn (by rw [e]; exact hr))⟩
theorem Wr.trans (h : Wr w w1 S) (k : Wr w1 w2 S) : Wr w w2 S := ⟨k.os.trans h.os, k.tape.trans h.tape, k.output.trans h.output, Nat.le_trans h.size k.size, fun i hi hn => (k.block i (Nat.lt_of_lt_of_le hi h.size) hn).trans (h.block i hi hn)⟩
theorem Wr.more {S' : List (Option Nat)} (h : Wr w w1 S) (hS : ∀ r ∈ S, r ∈ S') : Wr w w1 S' := ⟨h.os, h.tape, h.output, h.size, fun k hk hn => h.block k hk (fun e => hn (hS _ e))⟩
theorem Wr.below {base : Nat} (h : Wr w w1 S) (hb : base ≤ w.heap.size) (hS : ∀ k, some k ∈ S → base ≤ k) : Below base w w1 := ⟨h.os, h.tape, h.output, h.size, fun k hk => h.block k (by omega) (fun e => by have := hS k e; omega)⟩
theorem Wr.cell (h : Wr w w1 S) {a : Addr} (hk : a.block < w.heap.size) (hn : some a.block ∉ S) : w1.cell? a = w.cell? a := World.cell?_of_block (h.block _ hk hn)
theorem Wr.own {base : Nat} {e : TypeId} {size n : Nat} {v : Value} {xs : List Value} (h : Wr w w1 S) (ho : w.ownsRow base e size v n xs) (hn : v.ownBlock = none ∨ v.ownBlock ∉ S) : w1.ownsRow base e size v n xs := by
  refine ⟨ho.1, ?_⟩
  rcases ho.2 with h0 | ⟨g, cap, cur, rfl, hb, hg, hrest⟩
  · exact .inl h0
  · refine .inr ⟨g, cap, cur, rfl, hb, ?_, hrest⟩
    rw [h.block g (Array.getElem?_eq_some_iff.1 hg).1 (by simpa [Value.ownBlock] using hn)]
    exact hg
theorem Wr.rd {B : Nat} {A : Option Addr} {xs : List Value} (h : Wr w w1 S) (hx : Rd w B A xs) (hB : B ≤ w.heap.size) (hn : ∀ k, k < B → some k ∉ S) : Rd w1 B A xs :=
  hx.keep fun p hp => h.cell (by omega) (hn _ hp)
end
theorem ne_blocks {u v : Value} {a b c d : Nat} (hu : ∀ k, u.ownBlock = some k → a ≤ k ∧ k < b) (hv : ∀ k, v.ownBlock = some k → c ≤ k ∧ k < d) (h : b ≤ c ∨ d ≤ a) : u.ownBlock = none ∨ u.ownBlock ≠ v.ownBlock := by
  cases hk : u.ownBlock with
  | none => exact .inl rfl
  | some k =>
    refine .inr fun e => ?_
    have h1 := hu k hk
    have h2 := hv k e.symm
    omega
theorem below_grown_own {w w1 w2 : World} {u : Value} {a b : Nat} (h : Below w.heap.size w w1) (hg : w1.grownBy w2 u.ownBlock) (hu : ∀ k, u.ownBlock = some k → a ≤ k ∧ k < b) (hw : w.heap.size ≤ a) : Below w.heap.size w w2 :=
  h.grown hg h.size fun k hk => Nat.le_trans hw (hu k hk).1
theorem own_empty_at {w : World} {base g : Nat} {e : TypeId} {size : Nat} (hb : base ≤ g) (h : w.heap[g]? = some (.cells #[] e (0, 0))) : w.ownsRow base e size (.slice (some ⟨g, 0, none⟩) 0 0) 0 [] :=
  ⟨by simp, .inr ⟨g, 0, #[], rfl, hb, h, Nat.le_refl _, Nat.zero_le _, by simp, by simp⟩⟩
theorem heap3_b (w : World) (A B C : Obj) : (((w.alloc A).alloc B).alloc C).heap[w.heap.size + 1]? = some B := by
  rw [Below.heap_alloc _ _ _ (by simp), heap_alloc2_new]
theorem heap3_c (w : World) (A B C : Obj) : (((w.alloc A).alloc B).alloc C).heap[w.heap.size + 1 + 1]? = some C := by
  have h := heap_alloc_new ((w.alloc A).alloc B) C
  rwa [World.size_alloc, World.size_alloc] at h
theorem bcell {W w1 : World} (hb : Below W.heap.size W w1) : (∀ b o, b < W.heap.size → w1.cell? ⟨b, o, none⟩ = W.cell? ⟨b, o, none⟩) ∧ (∀ b o, b < W.heap.size → w1.frozen? ⟨b, o, none⟩ = W.frozen? ⟨b, o, none⟩) :=
  ⟨fun b o h => hb.cell (p := ⟨b, o, none⟩) h, fun b o h => hb.frozen (p := ⟨b, o, none⟩) h⟩
theorem neI {a b : Int} (h : a ≠ b) : (a == b) = false ∧ (a != b) = true := ⟨beq_eq_false_iff_ne.2 h, bne_iff_ne.2 h⟩
theorem eqI (a : Int) : (a == a) = true ∧ (a != a) = false := by simp
theorem undrew {B : Nat} {a b : World} (h : Below B a.drew b) : Below B a b := ⟨h.os, h.tape, h.output, h.size, h.block⟩
end Go.Proofs.Ytlfnpnkpjdmonaa
