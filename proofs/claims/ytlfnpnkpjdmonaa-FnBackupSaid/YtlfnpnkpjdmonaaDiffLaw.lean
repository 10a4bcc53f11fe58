import Derived.Test.YtlfnpnkpjdmonaaPairLaw
set_option linter.unusedVariables false
set_option linter.unusedSimpArgs false
namespace Go.Proofs.Ytlfnpnkpjdmonaa
open Go.RowKit

/-! ### what two lists of pairs differ in, as lists -/
structure Df where
  key : ByteArray
  old : ByteArray
  new : ByteArray
  had : Bool
  has : Bool
def encD (d : Df) : List Value := [.string d.key, .string d.old, .string d.new, .bool d.had, .bool d.has]
@[reducible] def dfV (d : Df) : Value := .agg #[.string d.key, .string d.old, .string d.new, .bool d.had, .bool d.has]
theorem encD_len (d : Df) : (encD d).length = 5 := rfl
def delD (p : Pr) : Df := ⟨p.1, p.2, ⟨#[]⟩, true, false⟩
def addD (q : Pr) : Df := ⟨q.1, ⟨#[]⟩, q.2, false, true⟩
def chgD (p q : Pr) : Df := ⟨p.1, p.2, q.2, true, true⟩
def diffM (a b : List Pr) : List Df :=
  match a, b with
  | [], [] => []
  | p :: a, [] => delD p :: diffM a []
  | [], q :: b => addD q :: diffM [] b
  | p :: a, q :: b => if lt p.1 q.1 then delD p :: diffM a (q :: b) else if lt q.1 p.1 then addD q :: diffM (p :: a) b else if p.2 = q.2 then diffM a b else chgD p q :: diffM a b
termination_by a.length + b.length
theorem diffM_nn : diffM [] [] = [] := by rw [diffM]
theorem diffM_cn (p : Pr) (a : List Pr) : diffM (p :: a) [] = delD p :: diffM a [] := by rw [diffM]
theorem diffM_nc (q : Pr) (b : List Pr) : diffM [] (q :: b) = addD q :: diffM [] b := by rw [diffM]
theorem diffM_lt {p q : Pr} (a b : List Pr) (h : lt p.1 q.1 = true) : diffM (p :: a) (q :: b) = delD p :: diffM a (q :: b) := by rw [diffM, if_pos h]
theorem diffM_gt {p q : Pr} (a b : List Pr) (h : lt q.1 p.1 = true) : diffM (p :: a) (q :: b) = addD q :: diffM (p :: a) b := by rw [diffM, if_neg (by rw [lt_asymm h]; simp), if_pos h]
theorem diffM_eq {p q : Pr} (a b : List Pr) (h : p.1 = q.1) (hv : p.2 = q.2) : diffM (p :: a) (q :: b) = diffM a b := by
  rw [diffM, h, if_neg (by rw [lt_irr]; simp), if_neg (by rw [lt_irr]; simp), if_pos hv]
theorem diffM_ne {p q : Pr} (a b : List Pr) (h : p.1 = q.1) (hv : p.2 ≠ q.2) : diffM (p :: a) (q :: b) = chgD p q :: diffM a b := by
  rw [diffM, if_neg (by rw [h, lt_irr]; simp), if_neg (by rw [h, lt_irr]; simp), if_neg hv]
/-- the five ways two lists go on -/
theorem two_ways {motive : List Pr → List Pr → Prop} (nn : motive [] []) (cn : ∀ p a, motive a [] → motive (p :: a) []) (nc : ∀ q b, motive [] b → motive [] (q :: b))
    (hlt : ∀ p a q b, lt p.1 q.1 = true → motive a (q :: b) → motive (p :: a) (q :: b)) (hgt : ∀ p a q b, lt q.1 p.1 = true → motive (p :: a) b → motive (p :: a) (q :: b))
    (heq : ∀ p a q b, p.1 = q.1 → motive a b → motive (p :: a) (q :: b)) (a b : List Pr) : motive a b :=
  match a, b with
  | [], [] => nn
  | p :: a, [] => cn p a (two_ways nn cn nc hlt hgt heq a [])
  | [], q :: b => nc q b (two_ways nn cn nc hlt hgt heq [] b)
  | p :: a, q :: b => by
    cases h1 : lt p.1 q.1 with
    | true => exact hlt p a q b h1 (two_ways nn cn nc hlt hgt heq a (q :: b))
    | false =>
      cases h2 : lt q.1 p.1 with
      | true => exact hgt p a q b h2 (two_ways nn cn nc hlt hgt heq (p :: a) b)
      | false => exact heq p a q b (lt_tri h1 h2) (two_ways nn cn nc hlt hgt heq a b)
termination_by a.length + b.length
theorem diffM_len (a b : List Pr) : (diffM a b).length ≤ a.length + b.length := by
  refine two_ways (motive := fun a b => (diffM a b).length ≤ a.length + b.length) ?_ ?_ ?_ ?_ ?_ ?_ a b
  · rw [diffM_nn]; simp
  · intro p a h; rw [diffM_cn]; simp at h ⊢; omega
  · intro q b h; rw [diffM_nc]; simp at h ⊢; omega
  · intro p a q b h1 h; rw [diffM_lt a b h1]; simp at h ⊢; omega
  · intro p a q b h1 h; rw [diffM_gt a b h1]; simp at h ⊢; omega
  · intro p a q b h1 h
    by_cases hv : p.2 = q.2
    · rw [diffM_eq a b h1 hv]; simp; omega
    · rw [diffM_ne a b h1 hv]; simp; omega
theorem diffM_swap (a b : List Pr) : (diffM b a).length = (diffM a b).length := by
  refine two_ways (motive := fun a b => (diffM b a).length = (diffM a b).length) ?_ ?_ ?_ ?_ ?_ ?_ a b
  · rfl
  · intro p a h; rw [diffM_cn, diffM_nc]; simp [h]
  · intro q b h; rw [diffM_nc, diffM_cn]; simp [h]
  · intro p a q b h1 h; rw [diffM_lt a b h1, diffM_gt b a h1]; simp [h]
  · intro p a q b h1 h; rw [diffM_gt a b h1, diffM_lt b a h1]; simp [h]
  · intro p a q b h1 h
    by_cases hv : p.2 = q.2
    · rw [diffM_eq a b h1 hv, diffM_eq b a h1.symm hv.symm, h]
    · rw [diffM_ne a b h1 hv, diffM_ne b a h1.symm (fun e => hv e.symm)]; simp [h]
theorem diffM_self (a : List Pr) : diffM a a = [] := by
  induction a with
  | nil => exact diffM_nn
  | cons p a ih => rw [diffM_eq a a rfl rfl, ih]
theorem diffM_nil {a b : List Pr} (h : diffM a b = []) : a = b := by
  revert h
  refine two_ways (motive := fun a b => diffM a b = [] → a = b) ?_ ?_ ?_ ?_ ?_ ?_ a b
  · intro _; rfl
  · intro p a _ h; rw [diffM_cn] at h; cases h
  · intro q b _ h; rw [diffM_nc] at h; cases h
  · intro p a q b h1 _ h; rw [diffM_lt a b h1] at h; cases h
  · intro p a q b h1 _ h; rw [diffM_gt a b h1] at h; cases h
  · intro p a q b h1 ih h
    by_cases hv : p.2 = q.2
    · rw [diffM_eq a b h1 hv] at h
      rw [ih h, Prod.ext h1 hv]
    · rw [diffM_ne a b h1 hv] at h; cases h
/-- differences laid on: none where they do not fit -/
def fitsD (l : List Pr) (d : Df) : Bool := (hitP l d.key == d.had) && !(hitP l d.key && !decide (valP l d.key = d.old))
def layD (l : List Pr) (d : Df) : List Pr := if d.has then putP l d.key d.new else dropP l d.key
def applyM : List Pr → List Df → Option (List Pr)
  | l, [] => some l
  | l, d :: ds => if fitsD l d then applyM (layD l d) ds else none
/-! over a part that is done -/
theorem hit_over {c x : List Pr} {k : ByteArray} (h : ∀ p ∈ c, lt p.1 k = true) : hitP (c ++ x) k = hitP x k := by
  induction c with
  | nil => rfl
  | cons p c ih =>
    simp only [List.cons_append, hitP, h p (List.mem_cons_self ..), if_true]
    exact ih fun q hq => h q (List.mem_cons_of_mem _ hq)
theorem put_over {c x : List Pr} {k v : ByteArray} (h : ∀ p ∈ c, lt p.1 k = true) : putP (c ++ x) k v = c ++ putP x k v := by
  rw [putP_eq, putP_eq]
  induction c with
  | nil => rfl
  | cons p c ih =>
    simp only [List.cons_append, putR, h p (List.mem_cons_self ..), if_true]
    rw [ih fun q hq => h q (List.mem_cons_of_mem _ hq)]
theorem drop_over {c x : List Pr} {k : ByteArray} (h : ∀ p ∈ c, lt p.1 k = true) : dropP (c ++ x) k = c ++ dropP x k := by
  unfold dropP
  rw [List.filter_append, List.filter_eq_self.2 fun p hp => decide_eq_true (lt_ne (h p hp))]
theorem rise_over {c x : List Pr} (h : Rise (c ++ x)) : (∀ p ∈ c, ∀ q ∈ x, lt p.1 q.1 = true) ∧ Rise x := by
  induction c with
  | nil => exact ⟨fun p hp => absurd hp (by simp), h⟩
  | cons p c ih =>
    obtain ⟨h1, h2⟩ := ih h.2
    refine ⟨fun q hq r hr => ?_, h2⟩
    rcases List.mem_cons.1 hq with rfl | hq
    · exact h.1 r (List.mem_append_right _ hr)
    · exact h1 q hq r hr
theorem rise_cut {c x : List Pr} {p : Pr} (h : Rise (c ++ p :: x)) : Rise (c ++ x) := by
  induction c with
  | nil => exact h.2
  | cons q c ih =>
    refine ⟨fun r hr => h.1 r ?_, ih h.2⟩
    rcases List.mem_append.1 hr with h1 | h1
    · exact List.mem_append_left _ h1
    · exact List.mem_append_right _ (List.mem_cons_of_mem _ h1)
theorem val_over {c x : List Pr} {p : Pr} (h : Rise (c ++ p :: x)) : valP (c ++ p :: x) p.1 = p.2 := val_of_mem h (List.mem_append_right _ (List.mem_cons_self ..))
theorem fits_del {c x : List Pr} {p : Pr} (h : Rise (c ++ p :: x)) : fitsD (c ++ p :: x) (delD p) = true := by
  have h1 := (hit_of_mem h (List.mem_append_right c (List.mem_cons_self (a := p) (l := x)))).1
  simp [fitsD, delD, h1, val_over h]
theorem fits_chg {c x : List Pr} {p q : Pr} (h : Rise (c ++ p :: x)) : fitsD (c ++ p :: x) (chgD p q) = true := by
  have h1 := (hit_of_mem h (List.mem_append_right c (List.mem_cons_self (a := p) (l := x)))).1
  simp [fitsD, chgD, h1, val_over h]
theorem apply_diff (a b : List Pr) : ∀ c : List Pr, Rise (c ++ a) → Rise (c ++ b) → applyM (c ++ a) (diffM a b) = some (c ++ b) := by
  refine two_ways (motive := fun a b => ∀ c : List Pr, Rise (c ++ a) → Rise (c ++ b) → applyM (c ++ a) (diffM a b) = some (c ++ b)) ?_ ?_ ?_ ?_ ?_ ?_ a b
  · intro c _ _; rw [diffM_nn]; rfl
  · intro p a ih c h1 h2
    have e : layD (c ++ p :: a) (delD p) = c ++ a := by
      obtain ⟨h3, h4⟩ := rise_over h1
      show dropP (c ++ p :: a) p.1 = _
      rw [drop_over fun q hq => h3 q hq p (List.mem_cons_self ..)]
      unfold dropP
      rw [List.filter_cons, if_neg (by simp), List.filter_eq_self.2 fun q hq => decide_eq_true (lt_ne (h4.1 q hq)).symm]
    rw [diffM_cn, applyM, if_pos (fits_del h1), e]
    exact ih c (rise_cut h1) h2
  · intro q b ih c h1 h2
    have h3 := (rise_over h2).1
    have h4 : ∀ p ∈ c, lt p.1 q.1 = true := fun p hp => h3 p hp q (List.mem_cons_self ..)
    have hh : hitP (c ++ []) q.1 = false := by rw [hit_over h4]; rfl
    have e : layD (c ++ []) (addD q) = (c ++ [q]) ++ [] := by
      show putP (c ++ []) q.1 q.2 = _
      rw [put_over h4]
      simp [putP_eq, putR]
    rw [diffM_nc, applyM, if_pos (by simp only [fitsD, addD, hh]; rfl), e, ih (c ++ [q]) (by
      rw [List.append_nil]
      have : Rise (c ++ [q]) := by
        have h5 := h2
        clear ih hh e h1 h3 h4 h2
        induction c with
        | nil => exact ⟨fun _ hr => by simp at hr, trivial⟩
        | cons r c ih => exact ⟨fun s hs => h5.1 s (by
            rcases List.mem_append.1 hs with h | h
            · exact List.mem_append_left _ h
            · rw [List.mem_singleton] at h; subst h; exact List.mem_append_right _ (List.mem_cons_self ..)), ih h5.2⟩
      exact this) (by simpa using h2)]
    simp
  · intro p a q b hlt ih c h1 h2
    have e : layD (c ++ p :: a) (delD p) = c ++ a := by
      obtain ⟨h3, h4⟩ := rise_over h1
      show dropP (c ++ p :: a) p.1 = _
      rw [drop_over fun q hq => h3 q hq p (List.mem_cons_self ..)]
      unfold dropP
      rw [List.filter_cons, if_neg (by simp), List.filter_eq_self.2 fun q hq => decide_eq_true (lt_ne (h4.1 q hq)).symm]
    rw [diffM_lt a b hlt, applyM, if_pos (fits_del h1), e]
    exact ih c (rise_cut h1) h2
  · intro p a q b hgt ih c h1 h2
    have h3 := (rise_over h2).1
    have h4 : ∀ p ∈ c, lt p.1 q.1 = true := fun p hp => h3 p hp q (List.mem_cons_self ..)
    have h6 := lt_asymm hgt
    have hne : p.1 ≠ q.1 := (lt_ne hgt).symm
    have hh : hitP (c ++ p :: a) q.1 = false := by rw [hit_over h4]; simp [hitP, h6, hne]
    have e : layD (c ++ p :: a) (addD q) = (c ++ [q]) ++ p :: a := by
      show putP (c ++ p :: a) q.1 q.2 = _
      rw [put_over h4]
      simp [putP_eq, putR, h6, hne]
    have hr : Rise ((c ++ [q]) ++ p :: a) := by rw [← e]; exact rise_putP h1 _ _
    rw [diffM_gt a b hgt, applyM, if_pos (by simp only [fitsD, addD, hh]; rfl), e, ih (c ++ [q]) hr (by simpa using h2)]
    simp
  · intro p a q b heq ih c h1 h2
    have h3 := (rise_over h1).1
    have h4 : ∀ r ∈ c, lt r.1 p.1 = true := fun r hr => h3 r hr p (List.mem_cons_self ..)
    by_cases hv : p.2 = q.2
    · obtain rfl : p = q := Prod.ext heq hv
      rw [diffM_eq a b rfl rfl]
      have := ih (c ++ [p]) (by simpa using h1) (by simpa using h2)
      simpa using this
    · have e : layD (c ++ p :: a) (chgD p q) = (c ++ [q]) ++ a := by
        show putP (c ++ p :: a) p.1 q.2 = _
        rw [put_over h4]
        have : (p.1, q.2) = q := by rw [heq]
        simp [putP_eq, putR, lt_irr, this]
      have hr : Rise ((c ++ [q]) ++ a) := by rw [← e]; exact rise_putP h1 _ _
      rw [diffM_ne a b heq hv, applyM, if_pos (fits_chg h1), e, ih (c ++ [q]) hr (by simpa using h2)]
      simp
/-- differences do not fit the list they lead to -/
theorem apply_wrong {a b : List Pr} (ha : Rise a) (hb : Rise b) {d : Df} {ds : List Df} (h : diffM a b = d :: ds) : fitsD b d = false := by
  have key : ∀ c : List Pr, Rise (c ++ a) → Rise (c ++ b) → ∀ d ds, diffM a b = d :: ds → fitsD (c ++ b) d = false := by
    clear h ha hb
    refine two_ways (motive := fun a b => ∀ c : List Pr, Rise (c ++ a) → Rise (c ++ b) → ∀ d ds, diffM a b = d :: ds → fitsD (c ++ b) d = false) ?_ ?_ ?_ ?_ ?_ ?_ a b
    · intro c _ _ d ds h; rw [diffM_nn] at h; cases h
    · intro p a _ c h1 h2 d ds h
      rw [diffM_cn] at h
      cases h
      have h3 := (rise_over h1).1
      have hh : hitP (c ++ []) p.1 = false := by rw [hit_over fun r hr => h3 r hr p (List.mem_cons_self ..)]; rfl
      unfold fitsD delD
      rw [hh]
      rfl
    · intro q b _ c h1 h2 d ds h
      rw [diffM_nc] at h
      cases h
      simp [fitsD, addD, (hit_of_mem h2 (List.mem_append_right c (List.mem_cons_self (a := q) (l := b)))).1]
    · intro p a q b hlt _ c h1 h2 d ds h
      rw [diffM_lt a b hlt] at h
      cases h
      have h3 := (rise_over h1).1
      have h5 := lt_asymm hlt
      have h6 := (lt_ne hlt).symm
      have : hitP (c ++ q :: b) p.1 = false := by rw [hit_over fun r hr => h3 r hr p (List.mem_cons_self ..)]; simp [hitP, h5, h6]
      simp [fitsD, delD, this]
    · intro p a q b hgt _ c h1 h2 d ds h
      rw [diffM_gt a b hgt] at h
      cases h
      simp [fitsD, addD, (hit_of_mem h2 (List.mem_append_right c (List.mem_cons_self (a := q) (l := b)))).1]
    · intro p a q b heq ih c h1 h2 d ds h
      by_cases hv : p.2 = q.2
      · rw [diffM_eq a b heq hv] at h
        have e : p = q := Prod.ext heq hv
        subst e
        have := ih (c ++ [p]) (by simpa using h1) (by simpa using h2) d ds h
        simpa using this
      · rw [diffM_ne a b heq hv] at h
        cases h
        have h3 := val_over h2
        have h4 := (hit_of_mem h2 (List.mem_append_right c (List.mem_cons_self (a := q) (l := b)))).1
        have h5 : ¬ q.2 = p.2 := fun e => hv e.symm
        simp [fitsD, chgD, heq, h3, h4, h5]
  have := key [] ha hb d ds h
  simpa using this
/-- each difference is one that the program takes -/
structure DOk (d : Df) : Prop where
  key : withinB d.key.size 1 30 = true
  old : d.old.size ≤ 90
  new : d.new.size ≤ 90
  one : d.had = true ∨ d.has = true
  noOld : d.had = false → d.old = ⟨#[]⟩
  noNew : d.has = false → d.new = ⟨#[]⟩
theorem pairB_parts {p : Pr} (h : pairB p = true) : withinB p.1.size 1 30 = true ∧ p.2.size ≤ 90 := by
  simp only [pairB, Bool.and_eq_true, decide_eq_true_eq] at h
  exact ⟨by simp [withinB]; omega, h.2⟩
theorem diffM_ok (a b : List Pr) (ha : ∀ p ∈ a, pairB p = true) (hb : ∀ p ∈ b, pairB p = true) : ∀ d ∈ diffM a b, DOk d := by
  have hdel : ∀ p : Pr, pairB p = true → DOk (delD p) := fun p h => ⟨(pairB_parts h).1, (pairB_parts h).2, Nat.zero_le _, .inl rfl, fun e => (by cases e), fun _ => rfl⟩
  have hadd : ∀ p : Pr, pairB p = true → DOk (addD p) := fun p h => ⟨(pairB_parts h).1, Nat.zero_le _, (pairB_parts h).2, .inr rfl, fun _ => rfl, fun e => (by cases e)⟩
  have hchg : ∀ p q : Pr, pairB p = true → pairB q = true → DOk (chgD p q) := fun p q h k => ⟨(pairB_parts h).1, (pairB_parts h).2, (pairB_parts k).2, .inl rfl, fun e => (by cases e), fun e => (by cases e)⟩
  revert ha hb
  refine two_ways (motive := fun a b => (∀ p ∈ a, pairB p = true) → (∀ p ∈ b, pairB p = true) → ∀ d ∈ diffM a b, DOk d) ?_ ?_ ?_ ?_ ?_ ?_ a b
  · intro _ _ d hd; rw [diffM_nn] at hd; cases hd
  · intro p a ih ha hb d hd
    rw [diffM_cn] at hd
    rcases List.mem_cons.1 hd with rfl | h
    · exact hdel p (ha p (List.mem_cons_self ..))
    · exact ih (fun q hq => ha q (List.mem_cons_of_mem _ hq)) hb d h
  · intro q b ih ha hb d hd
    rw [diffM_nc] at hd
    rcases List.mem_cons.1 hd with rfl | h
    · exact hadd q (hb q (List.mem_cons_self ..))
    · exact ih ha (fun q hq => hb q (List.mem_cons_of_mem _ hq)) d h
  · intro p a q b h1 ih ha hb d hd
    rw [diffM_lt a b h1] at hd
    rcases List.mem_cons.1 hd with rfl | h
    · exact hdel p (ha p (List.mem_cons_self ..))
    · exact ih (fun q hq => ha q (List.mem_cons_of_mem _ hq)) hb d h
  · intro p a q b h1 ih ha hb d hd
    rw [diffM_gt a b h1] at hd
    rcases List.mem_cons.1 hd with rfl | h
    · exact hadd q (hb q (List.mem_cons_self ..))
    · exact ih ha (fun q hq => hb q (List.mem_cons_of_mem _ hq)) d h
  · intro p a q b h1 ih ha hb d hd
    have hr := ih (fun q hq => ha q (List.mem_cons_of_mem _ hq)) (fun q hq => hb q (List.mem_cons_of_mem _ hq))
    by_cases hv : p.2 = q.2
    · rw [diffM_eq a b h1 hv] at hd
      exact hr d hd
    · rw [diffM_ne a b h1 hv] at hd
      rcases List.mem_cons.1 hd with rfl | h
      · exact hchg p q (ha p (List.mem_cons_self ..)) (hb q (List.mem_cons_self ..))
      · exact hr d h
end Go.Proofs.Ytlfnpnkpjdmonaa
