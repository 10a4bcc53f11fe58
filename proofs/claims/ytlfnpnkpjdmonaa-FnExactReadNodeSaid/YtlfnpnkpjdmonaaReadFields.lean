import Derived.Test.YtlfnpnkpjdmonaaFields
set_option linter.unusedVariables false
set_option linter.unusedSimpArgs false
namespace Go.Proofs.Ytlfnpnkpjdmonaa
open Go.RowKit

/-- the fields of which bytes are just the bytes -/
def full (l : List UInt8) : Option (List (List UInt8)) := match parseF l with
  | some (xs, []) => some xs
  | _ => none
def JustPost (w : World) (l : List UInt8) (e : Ending) (w' : World) : Prop :=
  ∃ v out ok, e = .returned (.tuple #[v, .bool ok]) ∧ w'.ownsRow w.heap.size 9 1 v out.length (out.map fun x => Value.string (bs x)) ∧ out.length ≤ 255 ∧ ok = (full l).isSome ∧ (∀ xs, full l = some xs → out = xs) ∧ Below w.heap.size w w'
theorem full_some {l l' : List UInt8} {out : List (List UInt8)} (h : FieldsRes l false out l' false) : (full l).isSome = decide (l' = []) ∧ (∀ xs, full l = some xs → out = xs) := by
  obtain ⟨_, _, h⟩ := h
  rw [if_neg (by simp)] at h
  unfold full
  cases hp : parseF l with
  | none => rw [hp] at h; cases h
  | some p =>
    rw [hp] at h
    obtain ⟨xs, q⟩ := p
    obtain ⟨rfl, rfl, _⟩ := h
    cases l' with
    | nil => simp
    | cons a b => simp
theorem full_none {l l' : List UInt8} {out : List (List UInt8)} (h : FieldsRes l false out l' true) : full l = none := by
  obtain ⟨_, _, h⟩ := h
  rw [if_neg (by simp)] at h
  unfold full
  cases hp : parseF l with
  | none => rfl
  | some p => rw [hp] at h; have := h.2.2; cases this

theorem just_mk {w w1 : World} {l : List UInt8} {v : Value} {out : List (List UInt8)} {ok : Bool} (n : Nat) (ho : w1.ownsRow w.heap.size 9 1 v out.length (out.map fun x => Value.string (bs x))) (h255 : out.length ≤ 255) (hok : ok = (full l).isSome) (hall : ∀ xs, full l = some xs → out = xs) (hb : Below w.heap.size w w1) :
    JustPost w l (.returned (.tuple #[v, .bool ok])) (w1.drewN n) := by
  unfold JustPost
  exact ⟨v, out, ok, rfl, ho, h255, hok, hall, below_drewN hb n⟩
set_option maxRecDepth 100000 in
theorem justFields_any (l : List UInt8) (w : World) (hl : l.length ≤ 4194304) : Calls Try.prog 109 #[.string (bs l)] w (JustPost w l) := by
  have HT0 : Hid (Tk (w.alloc (.cells #[.string (bs l), .bool false] 184)) w.heap.size l false) := heap_alloc_new _ _
  go_enter Try.func109, Try.ntmps109
  go_wp2_with fail
  refine (fields_any w.heap.size l false _ HT0.out hl).mono ?_
  rintro e w1 ⟨v, out, l', bad', rfl, hres, ho, ht, hg⟩
  obtain ⟨c0, c1, _⟩ := ht.cells
  have HO : Hid (w1.ownsRow w.heap.size 9 1 v out.length (out.map fun x => Value.string (bs x))) := own_mono ho (by simp)
  have HB : Hid (Below w.heap.size w w1) := ((Below.refl _ _).alloc (Nat.le_refl _) _).trans (below_grown (some w.heap.size) hg (by simp) (fun k e => by injection e; omega))
  have HR := Lib.hid hres
  clear ho ht hg hres HT0
  cases bad' with
  | true =>
    go_wp2
    go_quiet (fail)
    go_wp2
    go_ret2
    exact just_mk _ HO.out HR.out.2.1 (by rw [full_none HR.out]; rfl) (fun xs h => by rw [full_none HR.out] at h; cases h) HB.out
  | false =>
    cases l' with
    | nil =>
      go_wp2
      go_quiet (fail)
      go_wp2
      go_ret2
      exact just_mk _ HO.out HR.out.2.1 (by rw [(full_some HR.out).1]; rfl) (full_some HR.out).2 HB.out
    | cons a b =>
      go_wp2
      go_quiet (fail)
      go_wp2
      go_ret2
      exact just_mk _ HO.out HR.out.2.1 (by rw [(full_some HR.out).1]; simp) (full_some HR.out).2 HB.out

/-! ### the reference's reading of fields -/
set_option maxRecDepth 100000 in
theorem l01Of_any (l : List UInt8) (w : World) (hl : l.length ≤ 4) : Calls Try.prog 185 #[.string (bs l)] w fun e w' => e = .returned (.int .i64 (be l)) ∧ w = w' := by
  have hsz : (bs l).size = l.length := by simp [ByteArray.size]
  go_enter Try.func185, Try.ntmps185
  go_wp2
  go_loop [3, 4] (fun a i => ∃ k : Nat, k ≤ l.length ∧ i = .int .i64 k ∧ a = .int .i64 (be (l.take k))) (fun _ i => l.length - (intOf i).toNat)
  case atStart => exact ⟨0, Nat.zero_le _, rfl, rfl⟩
  case round =>
    obtain ⟨k, hk, rfl, rfl⟩ := hrel
    by_cases hlt : k < l.length
    · have hbl := be_take_lt l k hl hlt
      have hbl' : (be (l.take k) : Int) < 16777216 := by omega
      clear hbl
      go_wp2
      go_round
      case rel =>
        refine ⟨k + 1, by omega, by go_num, ?_⟩
        rw [List.take_succ_eq_append_getElem hlt, be_snoc]
        have e : (bs l)[k] = l[k] := rfl
        have h2 := l[k].toNat_lt
        rw [e, IntWalk.wrap64_in (l[k].toNat : Int) ⟨by omega, by omega⟩, IntWalk.wrap64_in _ ⟨by omega, by omega⟩]
        go_num
      case measure => simp [intOf]; omega
    · go_wp2
      go_ret
      exact ⟨by rw [List.take_of_length_le (by omega)]; rfl, rfl⟩
theorem l01Of_str (s : ByteArray) (l : List UInt8) (hs : s = bs l) (w : World) (hl : l.length ≤ 4) : Calls Try.prog 185 #[.string s] w fun e w' => e = .returned (.int .i64 (be l)) ∧ w = w' := by
  subst hs
  exact l01Of_any l w hl
theorem bs_cut (l : List UInt8) (a b : Nat) : (bs l).extract a b = bs ((l.drop a).take (b - a)) := Go.WideShapes.bytes_inj (by simp [ByteArray.data_extract])
theorem bs_head (l : List UInt8) (h : 0 < l.length) : be (l.take 1) = (l[0].toNat) := by
  cases l with
  | nil => simp at h
  | cons a b => simp [be]
theorem parseN_short {k : Nat} {r : List UInt8} (h : r.length < 2) : parseN (k + 1) r = none := by rw [parseN, if_pos (.inl h)]
theorem parseN_far {k : Nat} {r : List UInt8} (h : 300 < be (r.take 2) ∨ (r.drop 2).length < be (r.take 2)) : parseN (k + 1) r = none := by rw [parseN, if_pos (.inr h)]
theorem parseN_go {k : Nat} {r : List UInt8} (h : ¬ r.length < 2) (h2 : ¬ 300 < be (r.take 2)) (h3 : ¬ (r.drop 2).length < be (r.take 2)) : parseN (k + 1) r = (parseN k ((r.drop 2).drop (be (r.take 2)))).map fun p => ((r.drop 2).take (be (r.take 2)) :: p.1, p.2) := by
  rw [parseN, if_neg (by omega)]

theorem just_no {w w1 : World} {l : List UInt8} (hf : full l = none) (g : Nat) (hg : w1.heap[g]? = some (.cells #[] 9 (0, 0))) (hge : w.heap.size ≤ g) (hb : Below w.heap.size w w1) : JustPost w l (.returned (.tuple #[.slice (some ⟨g, 0, none⟩) 0 0, .bool false])) w1 := by
  unfold JustPost
  exact ⟨_, [], false, rfl, own_empty_at hge hg, by simp, by rw [hf]; rfl, (fun xs h => by rw [hf] at h; cases h), hb⟩
theorem full_of_parse {l : List UInt8} (h : parseF l = none) : full l = none := by unfold full; rw [h]

set_option maxRecDepth 100000 in
set_option maxHeartbeats 1000000 in
theorem l01Read_any (l : List UInt8) (w : World) (hl : l.length ≤ 4194304) : Calls Try.prog 108 #[.string (bs l)] w (JustPost w l) := by
  obtain ⟨i0, hi, hz0, hz1, hz2⟩ := info_parts infoString
  have HI := Lib.hid (And.intro hi (And.intro hz0 (And.intro hz1 hz2)))
  clear hi hz0 hz1 hz2
  have hsz : (bs l).size = l.length := by simp [ByteArray.size]
  have hls : (bs l).toList = l := by rw [ByteArray.toList_eq, bs_data]
  by_cases h0 : l = []
  · subst h0
    go_enter Try.func108, Try.ntmps108
    go_wp2
    go_ret2
    exact just_no (full_of_parse (by simp [parseF])) w.heap.size (heap_alloc_new _ _) (Nat.le_refl _) (by repeat (first | exact Below.refl _ _ | assumption | refine Below.drew ?_ | refine below_drewN ?_ _ | refine Below.setCell ?_ (by first | exact Nat.le_refl _ | exact Below.size (by assumption) | (simp; done) | (simp; omega) | omega) _ | refine Below.alloc ?_ (by first | exact Nat.le_refl _ | exact Below.size (by assumption) | (simp; done) | (simp; omega) | omega) _))
  · have hpos : 0 < l.length := List.length_pos_iff.2 h0
    have he0 : l.isEmpty = false := by cases l <;> simp_all
    have hge0 : (bs l)[0]'(by omega) = l[0] := rfl
    have hbd := bs_head l hpos
    by_cases h200 : 200 < l[0].toNat
    · have HF := Lib.hid (full_of_parse (l := l) (by rw [parseF, if_pos (.inr (by rw [hbd]; exact h200))]))
      go_enter Try.func108, Try.ntmps108
      go_wp2
      go_ret2
      exact just_no HF.out w.heap.size (heap_alloc_new _ _) (Nat.le_refl _) (by repeat (first | exact Below.refl _ _ | assumption | refine Below.drew ?_ | refine below_drewN ?_ _ | refine Below.setCell ?_ (by first | exact Nat.le_refl _ | exact Below.size (by assumption) | (simp; done) | (simp; omega) | omega) _ | refine Below.alloc ?_ (by first | exact Nat.le_refl _ | exact Below.size (by assumption) | (simp; done) | (simp; omega) | omega) _))
    · have HP : Hid (parseF l = parseN l[0].toNat (l.drop 1)) := by
        show parseF l = _
        rw [parseF, if_neg (by rw [hbd]; omega), hbd]
      have h200' : (l[0].toNat : Int) ≤ 200 := by omega
      clear hbd h200
      go_enter Try.func108, Try.ntmps108
      go_wp2
      go_loopw [4, 5, 6] (fun v p i wr => ∃ (k a : Nat) (out : List (List UInt8)), i = .int .i64 k ∧ p = .int .i64 a ∧ 1 ≤ a ∧ a ≤ l.length ∧ out.length + k = l[0].toNat ∧ parseF l = (parseN k (l.drop a)).map (fun p => (out ++ p.1, p.2)) ∧ wr.ownsRow w.heap.size 9 1 v out.length (out.map fun x => Value.string (bs x)) ∧ Below w.heap.size w wr) (fun _ _ i _ => (intOf i).toNat)
      case atStart =>
        exact ⟨l[0].toNat, 1, [], by go_num, rfl, by omega, by omega, by simp, by rw [HP.out]; simp, own_empty_at (Nat.le_refl _) (heap_alloc_new _ _), by repeat (first | exact Below.refl _ _ | assumption | refine Below.drew ?_ | refine below_drewN ?_ _ | refine Below.setCell ?_ (by first | exact Nat.le_refl _ | exact Below.size (by assumption) | (simp; done) | (simp; omega) | omega) _ | refine Below.alloc ?_ (by first | exact Nat.le_refl _ | exact Below.size (by assumption) | (simp; done) | (simp; omega) | omega) _)⟩
      case round =>
        obtain ⟨k, a, out, rfl, rfl, ha1, ha2, hlen, hpar, ho, hb⟩ := hrel
        have HPA := Lib.hid hpar
        have HL := Lib.hid hlen
        have HO := Lib.hid ho
        have hsw := hb.size
        clear hpar hlen ho HP
        by_cases hk : 0 < k
        · obtain ⟨k, rfl⟩ : ∃ m, k = m + 1 := ⟨k - 1, by omega⟩
          have hdl : (l.drop a).length = l.length - a := by simp
          by_cases hshort : l.length < a + 2
          · have HF := Lib.hid (full_of_parse (l := l) (by rw [HPA.out, parseN_short (by omega)]; rfl))
            go_wp2
            go_ret2
            exact just_no HF.out wr.heap.size (heap_alloc_new _ _) hsw (hb.alloc hsw _)
          · have hcut := bs_cut l a (a + 2)
            rw [show a + 2 - a = 2 from by omega] at hcut
            have h2l : ((l.drop a).take 2).length = 2 := by rw [List.length_take]; omega
            have hbe : be ((l.drop a).take 2) < 65536 := by
              have h := be_lt ((l.drop a).take 2)
              rwa [h2l] at h
            have hbe' : (be ((l.drop a).take 2) : Int) < 65536 := by omega
            have hd2 : ((l.drop a).drop 2).length = l.length - a - 2 := by simp; omega
            have HD2 := Lib.hid hd2
            have H2L := Lib.hid h2l
            have HCUT := Lib.hid hcut
            clear hdl hd2 h2l hcut hbe hbe'
            go_wp2_with fail
            refine (l01Of_str _ ((l.drop a).take 2) HCUT.out _ (by have := H2L.out; omega)).mono ?_
            rintro e w' ⟨rfl, rfl⟩
            have hbe : be ((l.drop a).take 2) < 65536 := by
              have h := be_lt ((l.drop a).take 2)
              have h2 := H2L.out
              rwa [h2] at h
            generalize hn : be ((l.drop a).take 2) = n at *
            have HN := Lib.hid hn
            clear hn
            have hni : (n : Int) ≤ 65535 := by omega
            clear hbe
            by_cases h300 : 300 < n
            · have HF := Lib.hid (full_of_parse (l := l) (by rw [HPA.out, parseN_far (by rw [HN.out]; exact .inl h300)]; rfl))
              go_wp2
              go_ret2
              exact just_no HF.out wr.heap.size (heap_alloc_new _ _) hsw (hb.alloc hsw _)
            · by_cases hfar : l.length < a + 2 + n
              · have HF := Lib.hid (full_of_parse (l := l) (by rw [HPA.out, parseN_far (by rw [HN.out, HD2.out]; right; omega)]; rfl))
                go_wp2
                go_ret2
                exact just_no HF.out wr.heap.size (heap_alloc_new _ _) hsw (hb.alloc hsw _)
              · have HC2 := Lib.hid (bs_cut l (a + 2) (a + 2 + n))
                have HGO := Lib.hid (parseN_go (k := k) (r := l.drop a) (by simp; omega) (by rw [HN.out]; exact h300) (by rw [HN.out, HD2.out]; omega))
                have HO2 := Lib.hid (HO.out.alloc (.cells #[.string ((bs l).extract (a + 2) (a + 2 + n))] 9))
                have HB2 : Hid (Below w.heap.size w (wr.alloc (.cells #[.string ((bs l).extract (a + 2) (a + 2 + n))] 9))) := hb.alloc hsw _
                go_wp2_with (at_builtin; refine wpList_append_own _ rfl (.tmp 48) (.tmp 57) _ rfl w.heap.size 9 i0 (.string ⟨#[]⟩) 1 16 Try.underlying29 HI.out.1 HI.out.2.1 HI.out.2.2.1 HI.out.2.2.2 rfl (by decide) u4 out.length _ rfl HO2.out ⟨wr.heap.size, 0, none⟩ 1 1 [.string ((bs l).extract (a + 2) (a + 2 + n))] rfl rfl ?c1 ?c2 ?c3 ?c4 ?c5 ?_)
                case c1 =>
                  intro j u hj
                  cases j with
                  | zero => simp at hj; subst hj; simp [Addr.add]
                  | succ j => simp at hj
                case c2 => simp [Value.oneCell']
                case c3 => have := HL.out; simp only [maxLen]; omega
                case c4 => have := HL.out; omega
                case c5 => simp; omega
                intro v4 w4 ho4 hg4 _
                have hb4 : Below w.heap.size w w4 := HB2.out.grown hg4 (by simp; omega) (fun q hq => (HO.out.lt q hq).1)
                have HO4 : Hid (w4.ownsRow w.heap.size 9 1 v4 (out ++ [((l.drop a).drop 2).take n]).length ((out ++ [((l.drop a).drop 2).take n]).map fun x => Value.string (bs x))) := by
                  have h := ho4
                  have e := HC2.out
                  rw [show a + 2 + n - (a + 2) = n from by omega] at e
                  rw [e] at h
                  rw [List.length_append, List.map_append, List.drop_drop]
                  exact h
                have HB4 := Lib.hid hb4
                have hk200 : (k : Int) ≤ 200 := by have := HL.out; omega
                clear ho4 hg4 hb4
                go_wp2
                go_roundw
                case rel =>
                  refine ⟨k, a + 2 + n, out ++ [((l.drop a).drop 2).take n], by go_num, by go_num, by omega, by omega, by have := HL.out; simp; omega, ?_, HO4.out, HB4.out⟩
                  have h := HGO.out
                  rw [HN.out, List.drop_drop, List.drop_drop] at h
                  rw [HPA.out, h, Option.map_map, List.drop_drop]
                  rw [show a + 2 + n = a + (2 + n) from by omega] at *
                  congr 1
                  funext p
                  simp
                case measure => simp [intOf]
        · have hk0 : k = 0 := by omega
          subst hk0
          by_cases hend : a = l.length
          · have HF : Hid (full l = some out) := by
              show full l = _
              unfold full
              rw [HPA.out, hend]
              simp [parseN]
            have hb0 : ((a : Int) != (l.length : Int)) = false := by rw [hend]; simp
            clear hend
            go_wp2
            go_ret2
            exact just_mk 0 HO.out (by have := HL.out; omega) (by rw [HF.out]; rfl) (fun xs h => by rw [HF.out] at h; injection h) hb
          · have HF : Hid (full l = none) := by
              show full l = _
              unfold full
              rw [HPA.out]
              cases hd : l.drop a with
              | nil => exact absurd (List.drop_eq_nil_iff.1 hd) (by omega)
              | cons x y => simp [parseN]
            have hb0 : ((a : Int) != (l.length : Int)) = true := by simp; omega
            clear hend
            go_wp2
            go_ret2
            exact just_no HF.out wr.heap.size (heap_alloc_new _ _) hsw (hb.alloc hsw _)
end Go.Proofs.Ytlfnpnkpjdmonaa
