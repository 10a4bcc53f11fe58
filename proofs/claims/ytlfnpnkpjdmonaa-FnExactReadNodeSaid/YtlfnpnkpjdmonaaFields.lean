import Derived.Test.YtlfnpnkpjdmonaaTaker
set_option linter.unusedVariables false
set_option linter.unusedSimpArgs false
namespace Go.Proofs.Ytlfnpnkpjdmonaa
open Go.RowKit

/-! ### fields: what bytes tell -/
def parseN : Nat → List UInt8 → Option (List (List UInt8) × List UInt8)
  | 0, r => some ([], r)
  | k + 1, r =>
    if r.length < 2 ∨ 300 < be (r.take 2) ∨ (r.drop 2).length < be (r.take 2) then none
    else (parseN k ((r.drop 2).drop (be (r.take 2)))).map fun p => ((r.drop 2).take (be (r.take 2)) :: p.1, p.2)
def parseF (l : List UInt8) : Option (List (List UInt8) × List UInt8) := if l.length < 1 ∨ 200 < be (l.take 1) then none else parseN (be (l.take 1)) (l.drop 1)

/-- one round: the text, what is left, whether it is bad -/
def stepF (l : List UInt8) : List UInt8 × List UInt8 × Bool :=
  let a := tkText 2 l false
  let b := tkText (be a.1) a.2.1 a.2.2
  (b.1, b.2.1, b.2.2 || decide (300 < be a.1))
theorem stepF_good {l : List UInt8} (h : (stepF l).2.2 = false) (m : Nat) : parseN (m + 1) l = (parseN m (stepF l).2.1).map fun p => ((stepF l).1 :: p.1, p.2) := by
  simp only [stepF] at h ⊢
  by_cases h1 : l.length < 2
  · simp [tkText, h1] at h
  · have e1 : tkText 2 l false = (l.take 2, l.drop 2, false) := by simp [tkText, h1]
    rw [e1] at h ⊢
    simp only at h ⊢
    by_cases h2 : (l.drop 2).length < be (l.take 2)
    · have e2 : tkText (be (l.take 2)) (l.drop 2) false = ([], l.drop 2, true) := by unfold tkText; rw [if_pos (.inr h2)]
      rw [e2] at h
      simp at h
    · have e2 : tkText (be (l.take 2)) (l.drop 2) false = ((l.drop 2).take (be (l.take 2)), (l.drop 2).drop (be (l.take 2)), false) := by unfold tkText; rw [if_neg (by simp only [Bool.false_eq_true, false_or]; exact h2)]
      rw [e2] at h ⊢
      simp only [Bool.false_or, decide_eq_false_iff_not] at h
      rw [parseN, if_neg (by omega)]
theorem stepF_bad {l : List UInt8} (h : (stepF l).2.2 = true) (m : Nat) : parseN (m + 1) l = none := by
  rw [parseN]
  by_cases h1 : l.length < 2
  · rw [if_pos (.inl h1)]
  · simp only [stepF] at h
    have e1 : tkText 2 l false = (l.take 2, l.drop 2, false) := by simp [tkText, h1]
    rw [e1] at h
    simp only at h
    by_cases h2 : (l.drop 2).length < be (l.take 2)
    · rw [if_pos (.inr (.inr h2))]
    · have e2 : tkText (be (l.take 2)) (l.drop 2) false = ((l.drop 2).take (be (l.take 2)), (l.drop 2).drop (be (l.take 2)), false) := by unfold tkText; rw [if_neg (by simp only [Bool.false_eq_true, false_or]; exact h2)]
      rw [e2] at h
      simp only [Bool.false_or, decide_eq_true_eq] at h
      rw [if_pos (.inr (.inl h))]
theorem tkText_len (n : Nat) (l : List UInt8) (bad : Bool) : (tkText n l bad).1.length ≤ n ∧ (tkText n l bad).2.1.length ≤ l.length ∧ (tkText n l bad).1.length ≤ l.length ∧ (bad = true → (tkText n l bad).2.2 = true) := by
  unfold tkText
  split
  · simp
  · rename_i h
    simp at h ⊢
    exact ⟨by omega, by omega, h.1⟩
theorem tkText_bad (n : Nat) (l : List UInt8) : tkText n l true = ([], l, true) := by simp [tkText]
theorem be_nil : be [] = 0 := rfl
theorem be2_lt (n : Nat) (hn : n ≤ 2) (l : List UInt8) (bad : Bool) : be (tkText n l bad).1 < 65536 := by
  have h1 := be_lt (tkText n l bad).1
  have h2 := (tkText_len n l bad).1
  exact Nat.lt_of_lt_of_le h1 (Nat.pow_le_pow_right (n := 256) (by omega) (Nat.le_trans h2 hn))

/-- what taking fields comes to -/
def FieldsRes (l : List UInt8) (bad : Bool) (out : List (List UInt8)) (l' : List UInt8) (bad' : Bool) : Prop :=
  l'.length ≤ l.length ∧ out.length ≤ 255 ∧ match (if bad = true then none else parseF l) with
  | some p => out = p.1 ∧ l' = p.2 ∧ bad' = false
  | none => bad' = true
def FieldsPost (w : World) (g : Nat) (l : List UInt8) (bad : Bool) (e : Ending) (w' : World) : Prop :=
  ∃ v out l' bad', e = .returned v ∧ FieldsRes l bad out l' bad' ∧ w'.ownsRow w.heap.size 9 1 v out.length (out.map fun x => Value.string (bs x)) ∧ Tk w' g l' bad' ∧ w.grownBy w' (some g)

/-- the loop's relation: i rounds are done -/
def FRel (l0 : List UInt8) (bad0 : Bool) (many i : Nat) (out : List (List UInt8)) (l : List UInt8) (bad : Bool) : Prop :=
  out.length = i ∧ l.length ≤ l0.length ∧ (bad = true → bad0 = true ∨ parseN many l0 = none) ∧ (bad = false → bad0 = false ∧ parseN many l0 = (parseN (many - i) l).map fun p => (out ++ p.1, p.2))
theorem FRel.step {l0 l : List UInt8} {bad0 : Bool} {many i : Nat} {out : List (List UInt8)} (h : FRel l0 bad0 many i out l false) (hi : i < many) : FRel l0 bad0 many (i + 1) (out ++ [(stepF l).1]) (stepF l).2.1 (stepF l).2.2 := by
  obtain ⟨h1, h2, _, h4⟩ := h
  obtain ⟨h5, h6⟩ := h4 rfl
  rw [show many - i = (many - (i + 1)) + 1 from by omega] at h6
  refine ⟨by simp [h1], ?_, fun hb => .inr ?_, fun hb => ⟨h5, ?_⟩⟩
  · have a := (tkText_len 2 l false).2.1
    have b := (tkText_len (be (tkText 2 l false).1) (tkText 2 l false).2.1 (tkText 2 l false).2.2).2.1
    show (tkText (be (tkText 2 l false).1) (tkText 2 l false).2.1 (tkText 2 l false).2.2).2.1.length ≤ _
    omega
  · rw [h6, stepF_bad hb]; rfl
  · rw [h6, stepF_good hb, Option.map_map]
    congr 1
    funext p
    simp
theorem Tk.far {w w1 : World} {g : Nat} {l : List UInt8} {bad : Bool} (h : Tk w g l bad) {r : Option Nat} (hg : w.grownBy w1 r) (hn : some g ≠ r) : Tk w1 g l bad := (hg.block g h.lt hn).trans h
theorem fields_end {l : List UInt8} {bad : Bool} {t : List UInt8 × List UInt8 × Bool} (ht : tkText 1 l bad = t) {i : Nat} {out : List (List UInt8)} {l' : List UInt8} {b' : Bool} (hr : FRel t.2.1 t.2.2 (be t.1) i out l' b') (hend : i = be t.1 ∨ b' = true) (hi : i ≤ be t.1) :
    FieldsRes l bad out l' (b' || decide (200 < be t.1)) := by
  obtain ⟨h1, h2, h3, h4⟩ := hr
  have hb1 : be t.1 < 256 := by
    have a := be_lt t.1
    have b := (tkText_len 1 l bad).1
    rw [ht] at b
    exact Nat.lt_of_lt_of_le a (Nat.pow_le_pow_right (n := 256) (by omega) b)
  have hl := (tkText_len 1 l bad).2.1
  rw [ht] at hl
  refine ⟨by omega, by omega, ?_⟩
  cases bad with
  | true =>
    have e : t.2.2 = true := by rw [← ht]; rw [tkText_bad]
    have e2 : t.1 = [] := by rw [← ht]; rw [tkText_bad]
    rw [if_pos rfl]
    cases b' with
    | true => rfl
    | false => have := (h4 rfl).1; rw [e] at this; cases this
  | false =>
    rw [if_neg (by simp)]
    by_cases hlen : l.length < 1
    · have e : t = ([], l, true) := by rw [← ht]; simp [tkText, hlen]
      rw [parseF, if_pos (.inl hlen)]
      cases b' with
      | true => rfl
      | false => have := (h4 rfl).1; rw [e] at this; cases this
    · have e : t = (l.take 1, l.drop 1, false) := by rw [← ht]; simp [tkText, hlen]
      subst e
      simp only at h1 h2 h3 h4 hend hi hb1 hl ⊢
      by_cases h200 : 200 < be (l.take 1)
      · rw [parseF, if_pos (.inr h200)]
        simp [h200]
      · rw [parseF, if_neg (by omega)]
        cases b' with
        | true =>
          rcases h3 rfl with h | h
          · cases h
          · rw [h]; rfl
        | false =>
          have he : i = be (l.take 1) := by rcases hend with h | h; exact h; cases h
          rw [(h4 rfl).2, he, Nat.sub_self]
          simp [parseN, h200]

theorem fields_close {w wr : World} {g : Nat} {l : List UInt8} {bad : Bool} {t : List UInt8 × List UInt8 × Bool} (ht : tkText 1 l bad = t) {i : Nat} {out : List (List UInt8)} {l' : List UInt8} {b' : Bool} (hr : FRel t.2.1 t.2.2 (be t.1) i out l' b') (hend : i = be t.1 ∨ b' = true) (hi : i ≤ be t.1)
    {v : Value} (ho : wr.ownsRow w.heap.size 9 1 v out.length (out.map fun x => Value.string (bs x))) (hk : Tk wr g l' b') (hgr : w.grownBy wr (some g)) (hgl : g < w.heap.size) (c : Bool) (hc : c = (b' || decide (200 < be t.1))) :
    FieldsPost w g l bad (.returned v) (wr.setCell ⟨g, 1, none⟩ (.bool c)) := by
  have hne : v.ownBlock = none ∨ v.ownBlock ≠ some g := by
    cases hv : v.ownBlock with
    | none => exact .inl rfl
    | some b => exact .inr (fun e => by have := (ho.lt b hv).1; injection e; omega)
  refine ⟨v, out, l', c, rfl, by rw [hc]; exact fields_end ht hr hend hi, ho.kept (grown_set _ _ _ _) hne, hk.setBad c, grown_after hgr (grown_set _ _ _ _)⟩

set_option maxRecDepth 100000 in
set_option maxHeartbeats 1000000 in
theorem fields_any (g : Nat) (l : List UInt8) (bad : Bool) (w : World) (hg : Tk w g l bad) (hl : l.length ≤ 4194304) :
    Calls Try.prog 186 #[.pointer (some ⟨g, 0, none⟩)] w (FieldsPost w g l bad) := by
  obtain ⟨i0, hi, hz0, hz1, hz2⟩ := info_parts infoString
  have HI := Lib.hid (And.intro hi (And.intro hz0 (And.intro hz1 hz2)))
  clear hi hz0 hz1 hz2
  have HG := Lib.hid hg
  have hgl := hg.lt
  clear hg
  generalize htk : tkText 1 l bad = t at *
  have hb1 : be t.1 < 256 := by
    have a := be_lt t.1
    have b := (tkText_len 1 l bad).1
    rw [htk] at b
    exact Nat.lt_of_lt_of_le a (Nat.pow_le_pow_right (n := 256) (by omega) b)
  have hl1 : t.2.1.length ≤ l.length := by have := (tkText_len 1 l bad).2.1; rwa [htk] at this
  have HT := Lib.hid htk
  clear htk
  go_enter Try.func186, Try.ntmps186
  go_wp2_with fail
  refine (number_any g l bad 1 _ HG.out (by omega) (by omega)).mono ?_
  rw [HT.out]
  rintro e w1 ⟨rfl, ht1, hg1⟩
  have HT1 := Lib.hid ht1
  have HG1 := Lib.hid hg1
  have hs1 := hg1.size
  clear ht1 hg1
  have HO1 : Hid ((w1.alloc (.cells #[] 9)).ownsRow w.heap.size 9 1 (.slice (some ⟨w1.heap.size, 0, none⟩) 0 0) 0 []) := own_empty_at hs1 (heap_alloc_new _ _)
  have HT2 := Lib.hid (HT1.out.kept ((Below.refl _ _).alloc (Nat.le_refl _) (.cells #[] 9)))
  have HG2 := Lib.hid (grown_after HG1.out (grown_below ((Below.refl _ _).alloc (Nat.le_refl _) (.cells #[] 9)) _))
  go_wp2
  go_loopw [4, 5] (fun v i wr => ∃ (k : Nat) (out : List (List UInt8)) (l' : List UInt8) (b' : Bool), i = .int .i64 k ∧ k ≤ be t.1 ∧ FRel t.2.1 t.2.2 (be t.1) k out l' b' ∧ wr.ownsRow w.heap.size 9 1 v out.length (out.map fun x => Value.string (bs x)) ∧ Tk wr g l' b' ∧ w.grownBy wr (some g)) (fun _ i _ => be t.1 - (intOf i).toNat)
  case atStart =>
    refine ⟨0, [], t.2.1, t.2.2, rfl, Nat.zero_le _, ⟨rfl, Nat.le_refl _, .inl, fun h => ⟨h, by simp⟩⟩, HO1.out, HT2.out, HG2.out⟩
  case round =>
    obtain ⟨k, out, l', b', rfl, hk, hr, ho, htk, hgr⟩ := hrel
    clear HO1 HT2 HG2 HT1 HG1
    obtain ⟨c0, c1, hf⟩ := htk.cells
    have HR := Lib.hid hr
    have HO := Lib.hid ho
    have HK := Lib.hid htk
    have HW := Lib.hid hgr
    have hsr := hgr.size
    have hf1 := hf 1
    have hll : l'.length ≤ 4194304 := by have := hr.2.1; omega
    have hol : out.length = k := hr.1
    have HL := Lib.hid hol
    clear hr ho htk hgr hf hol
    by_cases hlt : k < be t.1
    · cases b' with
      | false =>
        go_wp2_with fail
        clear c0 c1 hf1
        refine (number_any g l' false 2 _ HK.out (by omega) (by omega)).mono ?_
        rintro e w2 ⟨rfl, ht2, hg2⟩
        have hA1 := be2_lt 2 (by omega) l' false
        have hA2 := (tkText_len 2 l' false).2.1
        have hA3 : (be (tkText 2 l' false).1 : Int) < 65536 := by omega
        have HT2 := Lib.hid ht2
        have HG2 := Lib.hid hg2
        clear ht2 hg2
        go_wp2_with fail
        refine (text_any g _ _ _ _ HT2.out (by omega) (by omega)).mono ?_
        rintro e w3 ⟨rfl, ht3, hg3⟩
        have HT3 := Lib.hid (ht3.kept ((Below.refl _ _).alloc (Nat.le_refl _) (.cells #[.string (bs (tkText (be (tkText 2 l' false).1) (tkText 2 l' false).2.1 (tkText 2 l' false).2.2).1)] 9)))
        have hne : ∀ (W : World) (b : Option Nat), u4.ownBlock = b → b = none ∨ b ≠ some g := by
          intro W b hb
          cases b with
          | none => exact .inl rfl
          | some q => exact .inr (fun e => by have := (HO.out.lt q hb).1; injection e; omega)
        have hw3 := Nat.le_trans HG2.out.size hg3.size
        have HG3 := Lib.hid (grown_after (grown_after (grown_after HW.out HG2.out) hg3) (grown_below ((Below.refl _ _).alloc (Nat.le_refl _) (.cells #[.string (bs (tkText (be (tkText 2 l' false).1) (tkText 2 l' false).2.1 (tkText 2 l' false).2.2).1)] 9)) _))
        have HO3 := Lib.hid (((HO.out.kept HG2.out (hne wr _ rfl)).kept hg3 (hne wr _ rfl)).alloc (.cells #[.string (bs (tkText (be (tkText 2 l' false).1) (tkText 2 l' false).2.1 (tkText 2 l' false).2.2).1)] 9))
        have HNE := Lib.hid hne
        clear ht3 hg3 hne
        go_wp2_with (at_builtin; refine wpList_append_own _ rfl (.tmp 24) (.tmp 28) _ rfl w.heap.size 9 i0 (.string ⟨#[]⟩) 1 16 Try.underlying29 HI.out.1 HI.out.2.1 HI.out.2.2.1 HI.out.2.2.2 rfl (by decide) u4 out.length _ rfl HO3.out ⟨w3.heap.size, 0, none⟩ 1 1 [.string (bs (tkText (be (tkText 2 l' false).1) (tkText 2 l' false).2.1 (tkText 2 l' false).2.2).1)] rfl rfl ?c1 ?c2 ?c3 ?c4 ?c5 ?_)
        case c1 =>
          intro j u hj
          cases j with
          | zero => simp at hj; subst hj; simp [Addr.add]
          | succ j => simp at hj
        case c2 => simp [Value.oneCell']
        case c3 => have := HL.out; simp only [maxLen]; omega
        case c4 => have := HL.out; omega
        case c5 => simp; omega
        intro v4 w4 ho4 hg4 _
        have hgn : some g ≠ u4.ownBlock := fun e => (HNE.out w4 _ e.symm).elim (fun h => by cases h) (fun h => h rfl)
        have ht4 := HT3.out.far hg4 hgn
        have hG4 : w.grownBy w4 (some g) := ⟨hg4.os.trans HG3.out.os, hg4.tape.trans HG3.out.tape, hg4.output.trans HG3.out.output, Nat.le_trans HG3.out.size hg4.size, fun q hq hn => (hg4.block q (Nat.lt_of_lt_of_le hq HG3.out.size) (fun e => by have := (HO.out.lt q e.symm).1; omega)).trans (HG3.out.block q hq hn)⟩
        obtain ⟨c0, c1, hf⟩ := ht4.cells
        have hf1 := hf 1
        have HT4 := Lib.hid ht4
        have HG4 := Lib.hid hG4
        have HO4 : Hid (w4.ownsRow w.heap.size 9 1 v4 (out ++ [(tkText (be (tkText 2 l' false).1) (tkText 2 l' false).2.1 (tkText 2 l' false).2.2).1]).length ((out ++ [(tkText (be (tkText 2 l' false).1) (tkText 2 l' false).2.1 (tkText 2 l' false).2.2).1]).map fun x => Value.string (bs x))) := by
          have h := ho4
          rw [List.length_append, List.map_append]
          exact h
        have HNE4 : Hid (v4.ownBlock = none ∨ v4.ownBlock ≠ some g) := by
          cases hv : v4.ownBlock with
          | none => exact .inl rfl
          | some q => exact .inr (fun e => by have := (ho4.lt q hv).1; injection e; omega)
        have HST := Lib.hid (HR.out.step hlt)
        clear ht4 hG4 hg4 ho4 hf hgn c0
        cases hbb : (tkText (be (tkText 2 l' false).1) (tkText 2 l' false).2.1 (tkText 2 l' false).2.2).2.2 with
        | true =>
          rw [hbb] at c1
          go_wp2
          go_roundw
          case rel =>
            refine ⟨k + 1, out ++ [(tkText (be (tkText 2 l' false).1) (tkText 2 l' false).2.1 (tkText 2 l' false).2.2).1], (tkText (be (tkText 2 l' false).1) (tkText 2 l' false).2.1 (tkText 2 l' false).2.2).2.1, true, by go_num, by omega, ?_, HO4.out.kept (grown_set _ _ _ _) HNE4.out, HT4.out.setBad true, grown_after HG4.out (grown_set _ _ _ _)⟩
            have h := HST.out
            have e : (stepF l').2.2 = true := by show ((tkText (be (tkText 2 l' false).1) (tkText 2 l' false).2.1 (tkText 2 l' false).2.2).2.2 || _) = true; rw [hbb]; rfl
            rw [e] at h
            exact h
          case measure => simp [intOf]; omega
        | false =>
          rw [hbb] at c1
          go_wp2
          go_roundw
          case rel =>
            refine ⟨k + 1, out ++ [(tkText (be (tkText 2 l' false).1) (tkText 2 l' false).2.1 (tkText 2 l' false).2.2).1], (tkText (be (tkText 2 l' false).1) (tkText 2 l' false).2.1 (tkText 2 l' false).2.2).2.1, decide (300 < be (tkText 2 l' false).1), by go_num, by omega, ?_, HO4.out.kept (grown_set _ _ _ _) HNE4.out, ?_, grown_after HG4.out (grown_set _ _ _ _)⟩
            · have h := HST.out
              have e : (stepF l').2.2 = decide (300 < be (tkText 2 l' false).1) := by show ((tkText (be (tkText 2 l' false).1) (tkText 2 l' false).2.1 (tkText 2 l' false).2.2).2.2 || _) = _; rw [hbb]; rfl
              rw [e] at h
              exact h
            · rw [show decide (300 < be (tkText 2 l' false).1) = decide (300 < (be (tkText 2 l' false).1 : Int)) from by simp; omega]
              exact HT4.out.setBad _
          case measure => simp [intOf]; omega
      | true =>
        go_wp2
        go_ret
        exact fields_close HT.out HR.out (.inr rfl) hk HO.out HK.out HW.out hgl true rfl
    · cases b' with
      | false =>
        have HK2 := Lib.hid (show k = be t.1 from by omega)
        go_wp2
        go_ret
        exact fields_close HT.out HR.out (.inl HK2.out) hk HO.out HK.out HW.out hgl _ (by simp; omega)
      | true =>
        go_wp2
        go_ret
        exact fields_close HT.out HR.out (.inr rfl) hk HO.out HK.out HW.out hgl true rfl
end Go.Proofs.Ytlfnpnkpjdmonaa
