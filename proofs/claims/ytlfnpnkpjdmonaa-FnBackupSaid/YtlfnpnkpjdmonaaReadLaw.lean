import Derived.Test.YtlfnpnkpjdmonaaTake
import Derived.Test.YtlfnpnkpjdmonaaBkOK
set_option linter.unusedVariables false
set_option linter.unusedSimpArgs false
namespace Go.Proofs.Ytlfnpnkpjdmonaa
open Go.RowKit

/-! ### plain: what reading a backup comes to -/
def dfOf (m : Nat) (xs : List (List UInt8)) : Df := ⟨bs (xs.getD 0 []), bs (xs.getD 1 []), bs (xs.getD 2 []), decide (m % 2 = 1), decide (m / 2 % 2 = 1)⟩
def rdD (l : List UInt8) : Option (Df × List UInt8) :=
  if l.length < 1 then none else match rdX 3 (l.drop 1) with
  | some p => if be (l.take 1) ≤ 3 then some (dfOf (be (l.take 1)) p.1, p.2) else none
  | none => none
def rdDs : Nat → List UInt8 → Option (List Df × List UInt8)
  | 0, l => some ([], l)
  | n + 1, l => match rdD l with
    | some p => (rdDs n p.2).map fun q => (p.1 :: q.1, q.2)
    | none => none
structure Bq where
  f : ByteArray
  t : ByteArray
  ch : Nat
  ds : List Df
  sm : Nat
  lk : Nat
def rdBk (l : List UInt8) : Option Bq :=
  if l.length < 4 then none else match rdX 2 (l.drop 4) with
  | none => none
  | some p => if p.2.length < 1 then none else match rdDs (be (p.2.take 1)) (p.2.drop 1) with
    | none => none
    | some q => if q.2.length = 8 then some ⟨bs (p.1.getD 0 []), bs (p.1.getD 1 []), be (l.take 4), q.1, be (q.2.take 4), be ((q.2.drop 4).take 4)⟩ else none
noncomputable def Bq.ok (m : Bq) : Bool := bkB m.f m.t m.ch m.ds m.sm
noncomputable def Bq.link (m : Bq) : Nat := linkM m.f m.t m.ch m.ds m.sm
def bkZero : Bq := ⟨⟨#[]⟩, ⟨#[]⟩, 0, [], 0, 0⟩
def P0of (t : List UInt8) : Option Bq := if t.take 6 = bkMark then rdBk (t.drop 6) else none
noncomputable def finM : Option Bq → Bq × Int
  | none => (bkZero, 3)
  | some m => if m.ok = true then if m.lk = m.link then (m, 0) else (bkZero, 8) else (bkZero, 3)
noncomputable def readM (t : List UInt8) : Bq × Int := finM (P0of t)
/-- i rounds are done -/
structure DRel (l0 : List UInt8) (bad0 : Bool) (many i : Nat) (ds : List Df) (l : List UInt8) (bad : Bool) : Prop where
  len : ds.length = i
  le : l.length ≤ l0.length
  isBad : bad = true → bad0 = true ∨ rdDs many l0 = none
  good : bad = false → bad0 = false ∧ rdDs many l0 = (rdDs (many - i) l).map fun p => (ds ++ p.1, p.2)
theorem ex_some {k : Nat} {l l' : List UInt8} {xs : List (List UInt8)} (h : ExRes k l false xs l' false) : rdX k l = some (xs, l') := by
  have h2 := h.2.2
  simp only [Bool.false_eq_true, if_false] at h2
  cases hp : rdX k l with
  | none => rw [hp] at h2; exact absurd h2 (by simp)
  | some p => rw [hp] at h2; rw [h2.1, h2.2.1]
theorem ex_none {k : Nat} {l l' : List UInt8} {xs : List (List UInt8)} (h : ExRes k l false xs l' true) : rdX k l = none := by
  have h2 := h.2.2
  simp only [Bool.false_eq_true, if_false] at h2
  cases hp : rdX k l with
  | none => rfl
  | some p => rw [hp] at h2; exact absurd h2.2.2 (by simp)
theorem ex_bad' {k : Nat} {l l' : List UInt8} {xs : List (List UInt8)} {b : Bool} (h : ExRes k l true xs l' b) : b = true := h.2.2
theorem DRel.step {l0 l l2 : List UInt8} {bad0 b2 : Bool} {many i : Nat} {ds : List Df} {xs : List (List UInt8)} (h : DRel l0 bad0 many i ds l false) (hi : i < many)
    (hx : ExRes 3 (tkText 1 l false).2.1 (tkText 1 l false).2.2 xs l2 b2) : DRel l0 bad0 many (i + 1) (ds ++ [dfOf (be (tkText 1 l false).1) xs]) l2 (b2 || decide (3 < be (tkText 1 l false).1)) := by
  obtain ⟨g1, g2⟩ := h.good rfl
  have hmi : many - i = (many - (i + 1)) + 1 := by omega
  by_cases hl : l.length < 1
  · have e : tkText 1 l false = ([], l, true) := by rw [tkText, if_pos (.inr hl)]
    rw [e] at hx ⊢
    obtain rfl := ex_bad' hx
    refine ⟨by simp [h.len], Nat.le_trans hx.2.1 h.le, fun _ => .inr ?_, fun hb => by simp at hb⟩
    rw [g2, hmi, rdDs, rdD, if_pos hl]; rfl
  · have e : tkText 1 l false = (l.take 1, l.drop 1, false) := by rw [tkText, if_neg (by rintro (e | e); cases e; exact hl e)]
    rw [e] at hx ⊢
    refine ⟨by simp [h.len], Nat.le_trans hx.2.1 (Nat.le_trans (by simp) h.le), fun hb => .inr ?_, fun hb => ⟨g1, ?_⟩⟩
    · rw [g2, hmi, rdDs, rdD, if_neg hl]
      cases b2 with
      | true => rw [ex_none hx]; rfl
      | false =>
        rw [ex_some hx]
        simp only [Bool.false_or, decide_eq_true_eq] at hb
        have hb' : 3 < be (l.take 1) := hb
        simp only
        rw [if_neg (by omega)]; rfl
    · simp only [Bool.or_eq_false_iff, decide_eq_false_iff_not] at hb
      obtain ⟨rfl, hb⟩ := hb
      rw [g2, hmi, rdDs, rdD, if_neg hl, ex_some hx]
      have hb' : ¬ 3 < be (l.take 1) := hb
      dsimp only
      rw [if_pos (by omega)]
      dsimp only
      cases rdDs (many - (i + 1)) l2 <;> simp
theorem DRel.start (l0 : List UInt8) (bad0 : Bool) (many : Nat) : DRel l0 bad0 many 0 [] l0 bad0 :=
  ⟨rfl, Nat.le_refl _, .inl, fun h => ⟨h, by cases rdDs many l0 <;> simp⟩⟩
theorem tk_good {n : Nat} {l l' a : List UInt8} {bad : Bool} (h : tkText n l bad = (a, l', false)) : bad = false ∧ ¬ l.length < n ∧ a = l.take n ∧ l' = l.drop n := by
  unfold tkText at h
  split at h
  · injection h with _ h; injection h with _ h; cases h
  · rename_i hc
    injection h with h1 h2
    injection h2 with h2 _
    exact ⟨by cases bad with | false => rfl | true => exact absurd (.inl rfl) hc, fun h3 => hc (.inr h3), h1.symm, h2.symm⟩
theorem tk_bad {n : Nat} {l l' a : List UInt8} {bad : Bool} (h : tkText n l bad = (a, l', true)) : bad = true ∨ l.length < n := by
  unfold tkText at h
  split at h
  · assumption
  · injection h with _ h; injection h with _ h; cases h
/-- the state behind some steps: what the rest comes to -/
structure St (P0 : Option Bq) (K : List UInt8 → Option Bq) (l : List UInt8) (bad : Bool) : Prop where
  isBad : bad = true → P0 = none
  good : bad = false → P0 = K l
theorem St.num {P0 : Option Bq} {K : List UInt8 → Option Bq} {K' : Nat → List UInt8 → Option Bq} {l l' a : List UInt8} {b b' : Bool} {n : Nat} (h : St P0 K l b) (ht : tkText n l b = (a, l', b')) (h1 : ∀ l, l.length < n → K l = none) (h2 : ∀ l, ¬ l.length < n → K l = K' (be (l.take n)) (l.drop n)) : St P0 (K' (be a)) l' b' := by
  refine ⟨?_, ?_⟩
  · rintro rfl
    rcases tk_bad ht with hb | hl
    · exact h.isBad hb
    · cases b with
      | true => exact h.isBad rfl
      | false => rw [h.good rfl, h1 l hl]
  · rintro rfl
    obtain ⟨hb, hl, rfl, rfl⟩ := tk_good ht
    rw [h.good hb, h2 l hl]
theorem St.ex {P0 : Option Bq} {K : List UInt8 → Option Bq} {K' : List (List UInt8) → List UInt8 → Option Bq} {l l' : List UInt8} {xs : List (List UInt8)} {b b' : Bool} {k : Nat} (h : St P0 K l b) (ht : ExRes k l b xs l' b') (h1 : ∀ l, rdX k l = none → K l = none) (h2 : ∀ l p, rdX k l = some p → K l = K' p.1 p.2) : St P0 (K' xs) l' b' := by
  refine ⟨?_, ?_⟩
  · rintro rfl
    cases b with
    | true => exact h.isBad rfl
    | false => rw [h.good rfl, h1 l (ex_none ht)]
  · rintro rfl
    cases b with
    | true => exact absurd (ex_bad' ht) (by simp)
    | false => rw [h.good rfl, h2 l _ (ex_some ht)]
def K1 (l : List UInt8) : Option Bq := rdBk l
def K2 (ch : Nat) (l : List UInt8) : Option Bq := match rdX 2 l with
  | none => none
  | some p => if p.2.length < 1 then none else match rdDs (be (p.2.take 1)) (p.2.drop 1) with
    | none => none
    | some q => if q.2.length = 8 then some ⟨bs (p.1.getD 0 []), bs (p.1.getD 1 []), ch, q.1, be (q.2.take 4), be ((q.2.drop 4).take 4)⟩ else none
def K3 (ch : Nat) (ns : List (List UInt8)) (l : List UInt8) : Option Bq := if l.length < 1 then none else match rdDs (be (l.take 1)) (l.drop 1) with
    | none => none
    | some q => if q.2.length = 8 then some ⟨bs (ns.getD 0 []), bs (ns.getD 1 []), ch, q.1, be (q.2.take 4), be ((q.2.drop 4).take 4)⟩ else none
def K4 (ch : Nat) (ns : List (List UInt8)) (many : Nat) (l : List UInt8) : Option Bq := match rdDs many l with
    | none => none
    | some q => if q.2.length = 8 then some ⟨bs (ns.getD 0 []), bs (ns.getD 1 []), ch, q.1, be (q.2.take 4), be ((q.2.drop 4).take 4)⟩ else none
def K5 (ch : Nat) (ns : List (List UInt8)) (ds : List Df) (l : List UInt8) : Option Bq := if l.length = 8 then some ⟨bs (ns.getD 0 []), bs (ns.getD 1 []), ch, ds, be (l.take 4), be ((l.drop 4).take 4)⟩ else none
def K6 (ch : Nat) (ns : List (List UInt8)) (ds : List Df) (sm : Nat) (l : List UInt8) : Option Bq := if l.length = 4 then some ⟨bs (ns.getD 0 []), bs (ns.getD 1 []), ch, ds, sm, be (l.take 4)⟩ else none
def K7 (ch : Nat) (ns : List (List UInt8)) (ds : List Df) (sm lk : Nat) (l : List UInt8) : Option Bq := if l.length = 0 then some ⟨bs (ns.getD 0 []), bs (ns.getD 1 []), ch, ds, sm, lk⟩ else none
theorem St.one {P0 : Option Bq} {l l' a : List UInt8} {b b' : Bool} (h : St P0 K1 l b) (ht : tkText 4 l b = (a, l', b')) : St P0 (K2 (be a)) l' b' :=
  h.num ht (fun l hl => by unfold K1 rdBk; rw [if_pos hl]) (fun l hl => by unfold K1 rdBk K2; rw [if_neg hl])
theorem St.two {P0 : Option Bq} {ch : Nat} {l l' : List UInt8} {xs : List (List UInt8)} {b b' : Bool} (h : St P0 (K2 ch) l b) (ht : ExRes 2 l b xs l' b') : St P0 (K3 ch xs) l' b' :=
  h.ex ht (fun l hl => by unfold K2; rw [hl]) (fun l p hl => by unfold K2; rw [hl]; rfl)
theorem St.three {P0 : Option Bq} {ch : Nat} {ns : List (List UInt8)} {l l' a : List UInt8} {b b' : Bool} (h : St P0 (K3 ch ns) l b) (ht : tkText 1 l b = (a, l', b')) : St P0 (K4 ch ns (be a)) l' b' :=
  h.num ht (fun l hl => by unfold K3; rw [if_pos hl]) (fun l hl => by unfold K3 K4; rw [if_neg hl])
theorem St.four {P0 : Option Bq} {ch many i : Nat} {ns : List (List UInt8)} {ds : List Df} {l l' : List UInt8} {b b' : Bool} (h : St P0 (K4 ch ns many) l b) (hd : DRel l b many i ds l' b') (he : i = many ∨ b' = true) : St P0 (K5 ch ns ds) l' b' := by
  refine ⟨?_, ?_⟩
  · intro hb
    rcases hd.isBad hb with h1 | h1
    · exact h.isBad h1
    · cases b with
      | true => exact h.isBad rfl
      | false => rw [h.good rfl]; unfold K4; rw [h1]
  · rintro rfl
    obtain rfl : i = many := he.resolve_right (by simp)
    obtain ⟨h1, h2⟩ := hd.good rfl
    rw [Nat.sub_self, rdDs] at h2
    rw [h.good h1]
    unfold K4 K5
    rw [h2]
    simp
theorem St.five {P0 : Option Bq} {ch : Nat} {ns : List (List UInt8)} {ds : List Df} {l l' a : List UInt8} {b b' : Bool} (h : St P0 (K5 ch ns ds) l b) (ht : tkText 4 l b = (a, l', b')) : St P0 (K6 ch ns ds (be a)) l' b' :=
  h.num ht (fun l hl => by unfold K5; rw [if_neg (by omega)]) (fun l hl => by
    unfold K5 K6
    by_cases h8 : l.length = 8
    · rw [if_pos h8, if_pos (by simp; omega)]
    · rw [if_neg h8, if_neg (by simp; omega)])
theorem St.six {P0 : Option Bq} {ch sm : Nat} {ns : List (List UInt8)} {ds : List Df} {l l' a : List UInt8} {b b' : Bool} (h : St P0 (K6 ch ns ds sm) l b) (ht : tkText 4 l b = (a, l', b')) : St P0 (K7 ch ns ds sm (be a)) l' b' :=
  h.num ht (fun l hl => by unfold K6; rw [if_neg (by omega)]) (fun l hl => by
    unfold K6 K7
    by_cases h8 : l.length = 4
    · rw [if_pos h8, if_pos (by simp; omega)]
    · rw [if_neg h8, if_neg (by simp; omega)])
theorem readM_of {t : List UInt8} {o : Option Bq} (h : P0of t = o) : readM t = finM o := by
  subst h; rfl
theorem parseN_sizes : ∀ {k : Nat} {r : List UInt8} {p : List (List UInt8) × List UInt8}, parseN k r = some p → ∀ x ∈ p.1, x.length ≤ 300
  | 0, r, p, h => by cases h; intro x hx; cases hx
  | k + 1, r, p, h => by
    rw [parseN] at h
    split at h
    · cases h
    · rename_i hc
      rw [Option.map_eq_some_iff] at h
      obtain ⟨q, hq, rfl⟩ := h
      intro x hx
      rcases List.mem_cons.1 hx with rfl | hx
      · rw [List.length_take]
        have : ¬ 300 < be (r.take 2) := fun e => hc (.inr (.inl e))
        omega
      · exact parseN_sizes hq x hx
theorem rdX_sizes {k : Nat} {r : List UInt8} {p : List (List UInt8) × List UInt8} (h : rdX k r = some p) : ∀ i, (p.1.getD i []).length ≤ 300 := by
  intro i
  unfold rdX at h
  cases hp : parseF r with
  | none => rw [hp] at h; cases h
  | some q =>
    rw [hp] at h
    simp only at h
    split at h
    · have e := Option.some.inj h
      rw [← e]
      unfold parseF at hp
      split at hp
      · cases hp
      · rw [List.getD_eq_getElem?_getD]
        cases hi : q.1[i]? with
        | none => simp
        | some x => exact parseN_sizes hp x (List.mem_of_getElem? hi)
    · cases h
theorem rdDs_sizes : ∀ {n : Nat} {r : List UInt8} {p : List Df × List UInt8}, rdDs n r = some p → ∀ d ∈ p.1, DSz d
  | 0, r, p, h => by cases h; intro x hx; cases hx
  | n + 1, r, p, h => by
    rw [rdDs] at h
    cases hd : rdD r with
    | none => rw [hd] at h; cases h
    | some d =>
      rw [hd] at h
      simp only [Option.map_eq_some_iff] at h
      obtain ⟨q, hq, rfl⟩ := h
      intro x hx
      rcases List.mem_cons.1 hx with rfl | hx
      · unfold rdD at hd
        split at hd
        · cases hd
        · cases hx3 : rdX 3 (r.drop 1) with
          | none => rw [hx3] at hd; cases hd
          | some p3 =>
            rw [hx3] at hd
            simp only at hd
            split at hd
            · cases hd
              have hz := rdX_sizes hx3
              have h0 := hz 0
              have h1 := hz 1
              have h2 := hz 2
              refine ⟨?_, ?_, ?_⟩ <;> simp only [dfOf, ByteArray.size, List.size_toArray] <;> omega
            · cases hd
      · exact rdDs_sizes hq x hx
theorem P0_sizes {t : List UInt8} (m : Bq) (h : P0of t = some m) : m.f.size ≤ 300 ∧ m.t.size ≤ 300 ∧ ∀ d ∈ m.ds, DSz d := by
  unfold P0of at h
  split at h
  · unfold rdBk at h
    split at h
    · cases h
    · cases hx : rdX 2 ((t.drop 6).drop 4) with
      | none => rw [hx] at h; cases h
      | some p =>
        rw [hx] at h
        simp only at h
        split at h
        · cases h
        · cases hd : rdDs (be (p.2.take 1)) (p.2.drop 1) with
          | none => rw [hd] at h; cases h
          | some q =>
            rw [hd] at h
            simp only at h
            split at h
            · cases h
              have hz := rdX_sizes hx
              have h0 := hz 0
              have h1 := hz 1
              refine ⟨?_, ?_, rdDs_sizes hd⟩ <;> simp only [ByteArray.size, List.size_toArray] <;> omega
            · cases h
  · cases h
theorem finM_bad {m : Bq} (h : m.ok = false) : finM (some m) = (bkZero, 3) := by
  show (if m.ok = true then _ else _) = _
  rw [h]; rfl
theorem finM_sum {m : Bq} (h : m.ok = true) (hl : m.lk ≠ m.link) : finM (some m) = (bkZero, 8) := by
  show (if m.ok = true then (if m.lk = m.link then (m, (0 : Int)) else (bkZero, 8)) else _) = _
  rw [if_pos h, if_neg hl]
theorem finM_ok {m : Bq} (h : m.ok = true) (hl : m.lk = m.link) : finM (some m) = (m, 0) := by
  show (if m.ok = true then (if m.lk = m.link then (m, (0 : Int)) else (bkZero, 8)) else _) = _
  rw [if_pos h, if_pos hl]
end Go.Proofs.Ytlfnpnkpjdmonaa
