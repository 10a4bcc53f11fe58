import Derived.Test.YtlfnpnkpjdmonaaDoorMsg1
set_option linter.unusedVariables false
set_option linter.unusedSimpArgs false
namespace Go.Proofs.YtlfnpnkpjdmonaaDoor

/-! ### messages, as lists of bytes -/
/-- what stands ahead of the first c, and behind it -/
def cut1 (c : UInt8) : List UInt8 → Option (List UInt8 × List UInt8)
  | [] => none
  | x :: t => if x = c then some ([], t) else (cut1 c t).map fun p => (x :: p.1, p.2)
theorem cut1_len {c : UInt8} : ∀ {l : List UInt8} {p : List UInt8 × List UInt8}, cut1 c l = some p → p.1.length + p.2.length + 1 = l.length
  | [], _, h => by cases h
  | x :: t, p, h => by
    rw [cut1] at h
    split at h
    · cases h; simp
    · rw [Option.map_eq_some_iff] at h
      obtain ⟨q, hq, rfl⟩ := h
      have := cut1_len hq
      simp
      omega
theorem cut1_at {c : UInt8} : ∀ (l : List UInt8) (k : Nat), (h : k < l.length) → l[k] = c → (∀ i (hi : i < k), l[i]'(by omega) ≠ c) → cut1 c l = some (l.take k, l.drop (k + 1))
  | x :: t, 0, _, hc, _ => by rw [cut1, if_pos (by simpa using hc)]; simp
  | x :: t, k + 1, h, hc, hb => by
    rw [cut1, if_neg (by simpa using hb 0 (by omega)), cut1_at t k (by simpa using h) (by simpa using hc) (fun i hi => by simpa using hb (i + 1) (by omega))]
    simp
theorem cut1_miss {c : UInt8} : ∀ (l : List UInt8), (∀ i (hi : i < l.length), l[i] ≠ c) → cut1 c l = none
  | [], _ => rfl
  | x :: t, hb => by
    rw [cut1, if_neg (show ¬ x = c from hb 0 (by simp)), cut1_miss t (fun i hi => (show t[i] ≠ c from hb (i + 1) (by simpa using hi)))]
    rfl
/-- the same at any separator -/
def cutS (sep : List UInt8) : List UInt8 → Option (List UInt8 × List UInt8)
  | [] => none
  | x :: t => if sep.isPrefixOf (x :: t) = true then some ([], (x :: t).drop sep.length) else (cutS sep t).map fun p => (x :: p.1, p.2)
theorem index_cutS (sep : List UInt8) (hs : sep ≠ []) : ∀ l : List UInt8, Go.Lib.cut l sep = match cutS sep l with | some p => (p.1, p.2, true) | none => (l, [], false)
  | [] => by
    have : sep.isEmpty = false := by cases sep with | nil => exact absurd rfl hs | cons => rfl
    simp [Go.Lib.cut, Go.Lib.index, cutS, this]
  | x :: t => by
    have ih := index_cutS sep hs t
    unfold Go.Lib.cut at ih ⊢
    rw [Go.Lib.index, cutS]
    by_cases hp : sep.isPrefixOf (x :: t) = true
    · rw [if_pos hp, if_pos hp]
      simp
    · rw [if_neg hp, if_neg hp]
      have hge := Go.Lib.index_ge t sep
      by_cases hi : Go.Lib.index t sep = -1
      · rw [hi] at ih ⊢
        cases hc : cutS sep t with
        | none => simp
        | some p => rw [hc] at ih; simp at ih
      · have e : (if (Go.Lib.index t sep == -1) = true then (-1 : Int) else Go.Lib.index t sep + 1) = Go.Lib.index t sep + 1 := if_neg (by simpa using hi)
        rw [e, if_pos (by omega)]
        rw [if_pos (by omega)] at ih
        cases hc : cutS sep t with
        | none => rw [hc] at ih; simp at ih
        | some p =>
          rw [hc] at ih
          simp only [Prod.mk.injEq, and_true] at ih
          obtain ⟨e1, e2⟩ := ih
          have hk : (Go.Lib.index t sep + 1).toNat = (Go.Lib.index t sep).toNat + 1 := by omega
          simp only [Option.map_some, Prod.mk.injEq, and_true]
          rw [hk, List.take_succ_cons, e1, ← e2]
          refine ⟨rfl, ?_⟩
          rw [show (Go.Lib.index t sep).toNat + 1 + sep.length = ((Go.Lib.index t sep).toNat + sep.length) + 1 from by omega, List.drop_succ_cons]
theorem cutS_one (c : UInt8) : ∀ l : List UInt8, cutS [c] l = cut1 c l
  | [] => rfl
  | x :: t => by
    rw [cutS, cut1, cutS_one c t]
    by_cases h : x = c
    · subst h; simp [List.isPrefixOf]
    · have h2 : ¬ c = x := fun e => h e.symm
      simp [List.isPrefixOf, h, h2]
/-- a line: a name, a colon, a blank, a value -/
def lineM (l : List UInt8) : Option Pr := match cut1 58 l with
  | none => none
  | some p => match p.2 with
    | [] => none
    | b :: v => if b = 32 then if lineB p.1 v = true then some (bs p.1, bs v) else none else none
theorem mch_colon : mchB 58 = false := by decide
theorem lnB_colon (a b : List UInt8) : lnB (a ++ 58 :: b) = false := by
  rw [lnB, List.all_append, List.all_cons, mch_colon]
  simp
theorem lineM_cutS (l : List UInt8) : ∀ pre : List UInt8, ((cutS [58, 32] l).bind fun p => if lineB (pre ++ p.1) p.2 = true then some (bs (pre ++ p.1), bs p.2) else none) =
    (match cut1 58 l with | none => none | some p => match p.2 with | [] => none | b :: v => if b = 32 then if lineB (pre ++ p.1) v = true then some (bs (pre ++ p.1), bs v) else none else none) := by
  induction l with
  | nil => intro pre; rfl
  | cons x t ih =>
    intro pre
    rw [cutS, cut1]
    by_cases hx : x = 58
    · subst hx
      rw [if_pos rfl]
      cases t with
      | nil => simp [List.isPrefixOf, cutS]
      | cons y r =>
        by_cases hy : y = 32
        · subst hy
          simp [List.isPrefixOf]
        · have hy2 : ¬ (32 : UInt8) = y := fun e => hy e.symm
          rw [if_neg (by simp [List.isPrefixOf, hy2])]
          simp only [if_neg hy]
          cases hc : cutS [58, 32] (y :: r) with
          | none => rfl
          | some p => simp [lineB, lnB_colon]
    · have hx2 : ¬ (58 : UInt8) = x := fun e => hx e.symm
      rw [if_neg (by simp [List.isPrefixOf, hx2]), if_neg hx]
      have h := ih (pre ++ [x])
      cases hc : cutS [58, 32] t with
      | none =>
        rw [hc] at h
        cases hd : cut1 58 t with
        | none => rfl
        | some q => rw [hd] at h; simpa using h
      | some p =>
        rw [hc] at h
        cases hd : cut1 58 t with
        | none => rw [hd] at h; simpa using h
        | some q => rw [hd] at h; simpa using h
theorem lineM_impl (l : List UInt8) : lineM l = match cutS [58, 32] l with | none => none | some p => if lineB p.1 p.2 = true then some (bs p.1, bs p.2) else none := by
  have h := lineM_cutS l []
  simp only [List.nil_append] at h
  rw [lineM, ← h]
  cases cutS [58, 32] l <;> rfl
/-- a message: lines, an empty line, the body -/
def msgM (fs : List Pr) (l : List UInt8) : Option (List Pr × List UInt8) :=
  match h : cut1 10 l with
  | none => none
  | some p => if p.1 = [] then some (fs, p.2) else match lineM p.1 with
    | none => none
    | some f => msgM (fs ++ [f]) p.2
termination_by l.length
decreasing_by have := cut1_len h; omega
theorem msgM_none {fs : List Pr} {l : List UInt8} (h : cut1 10 l = none) : msgM fs l = none := by
  rw [msgM]
  split
  · rfl
  · rename_i p hp; rw [h] at hp; cases hp
theorem msgM_some {fs : List Pr} {l : List UInt8} {p : List UInt8 × List UInt8} (h : cut1 10 l = some p) : msgM fs l = if p.1 = [] then some (fs, p.2) else match lineM p.1 with | none => none | some f => msgM (fs ++ [f]) p.2 := by
  rw [msgM]
  split
  · rename_i hp; rw [h] at hp; cases hp
  · rename_i q hq
    rw [h] at hq
    cases hq
    rfl
/-- .. of at most eight fields -/
def parM (l : List UInt8) : Option (List Pr × List UInt8) := match msgM [] l with
  | none => none
  | some p => if p.1.length ≤ 8 then some p else none
end Go.Proofs.YtlfnpnkpjdmonaaDoor
