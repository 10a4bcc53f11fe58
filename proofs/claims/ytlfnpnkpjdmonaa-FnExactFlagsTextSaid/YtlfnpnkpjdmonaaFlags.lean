import Derived.Test.YtlfnpnkpjdmonaaTexts
import Derived.Test.YtlfnpnkpjdmonaaShelf
import Derived.Lib.Join
set_option linter.unusedVariables false
set_option linter.unusedSimpArgs false
namespace Go.Proofs.Ytlfnpnkpjdmonaa
open Go.RowKit

def joinM (xs : List ByteArray) (sep : ByteArray) : ByteArray := ⟨(Lib.join (xs.map (·.data.toList)) sep.data.toList).toArray⟩
theorem join_snoc (ys : List (List UInt8)) (x sep : List UInt8) (h : ys ≠ []) : Lib.join (ys ++ [x]) sep = Lib.join ys sep ++ sep ++ x := by
  cases ys with
  | nil => exact absurd rfl h
  | cons y r =>
    rw [List.cons_append, Lib.join_cons, Lib.join_cons, Lib.joinTail, Lib.joinTail, List.map_append, List.flatten_append]
    simp
set_option maxRecDepth 100000 in
theorem l00Join_any (A : Option Addr) (c : Nat) (xs : List ByteArray) (sep : ByteArray) (w : World) (hx : Rd w w.heap.size A (xs.map Value.string)) (hl : xs.length ≤ 1000) (hs : ∀ s ∈ xs, s.size ≤ 1000) (hsep : sep.size ≤ 1000) :
    Calls Try.prog 183 #[.slice A xs.length c, .string sep] w fun e w' => e = .returned (.string (joinM xs sep)) ∧ w = w' := by
  have HX := Lib.hid hx
  have HS := Lib.hid hs
  clear hx hs
  go_enter Try.func183, Try.ntmps183
  go_wp2
  go_loop [5, 6] (fun o i => ∃ (k : Nat) (s : ByteArray), k ≤ xs.length ∧ i = .int .i64 k ∧ o = .string s ∧ s = joinM (xs.take k) sep ∧ s.size ≤ 2000 * k) (fun _ i => xs.length - (intOf i).toNat)
  case atStart => exact ⟨0, ⟨#[]⟩, Nat.zero_le _, rfl, rfl, rfl, by simp [ByteArray.size]⟩
  case round =>
    obtain ⟨k, s, hk, rfl, rfl, hj, hsz⟩ := hrel
    have HJ := Lib.hid hj
    clear hj
    by_cases hlt : k < xs.length
    · obtain ⟨ad, rfl, _, hca⟩ := HX.out.at_ (map_at hlt)
      have hxs := HS.out xs[k] (List.getElem_mem _)
      by_cases h0 : 0 < k
      · go_wp2
        go_round
        case rel =>
          refine ⟨k + 1, s ++ sep ++ xs[k], by omega, by go_num, rfl, ?_, by rw [ByteArray.size_append, ByteArray.size_append]; omega⟩
          apply Go.WideShapes.bytes_inj
          rw [HJ.out, List.take_succ_eq_append_getElem hlt]
          simp only [joinM, List.map_append, List.map_cons, List.map_nil]
          rw [join_snoc _ _ _ (by intro h; rw [List.map_eq_nil_iff, List.take_eq_nil_iff] at h; rcases h with h | h; omega; subst h; simp at hlt)]
          simp [ByteArray.data_append]
        case measure => simp [intOf]; omega
      · go_wp2
        go_round
        case rel =>
          obtain rfl : k = 0 := by omega
          refine ⟨1, s ++ xs[0], by omega, by go_num, rfl, ?_, by rw [ByteArray.size_append]; omega⟩
          apply Go.WideShapes.bytes_inj
          rw [HJ.out, List.take_succ_eq_append_getElem hlt]
          simp [joinM, Lib.join_one, Lib.join_nil, ByteArray.data_append]
        case measure => simp [intOf]; omega
    · go_wp2
      go_ret
      exact ⟨by rw [HJ.out, List.take_of_length_le (by omega)]; rfl, rfl⟩
/-- Join, whatever it is handed (the library's own). -/
theorem strJoin_any {base : Nat} {v : Value} (xs : List ByteArray) (sep : ByteArray) (w : World) (hv : w.ownsRow base 9 1 v xs.length (xs.map Value.string)) (hl : xs.length ≤ 1000) (hlen : (joinM xs sep).size ≤ 100000) :
    Calls Try.prog 184 #[v, .string sep] w fun e w' => e = .returned (.string (joinM xs sep)) ∧ Below w.heap.size w w' := by
  rcases hv.2 with ⟨rfl, hn⟩ | ⟨g, cap, cur, rfl, hb, hg, hc, hm, hrest⟩
  · obtain rfl : xs = [] := List.eq_nil_of_length_eq_zero hn
    exact (Try.strings_Join_none none 0 sep w).mono fun e w' ⟨he, hw⟩ => ⟨he, hw ▸ Below.refl _ _⟩
  · have hsz : (Lib.join (xs.map (·.data.toList)) sep.data.toList).length ≤ 140737488355328 := by
      have : (joinM xs sep).size = (Lib.join (xs.map (·.data.toList)) sep.data.toList).length := by simp [joinM, ByteArray.size]
      omega
    refine Try.strings_Join g 0 cap xs sep w (fun j x hj => ?_) (Array.getElem?_eq_some_iff.1 hg).1 (by omega) hc hsz
    rw [Nat.zero_add, hv.cellAt j (by have := (List.getElem?_eq_some_iff.1 hj).1; omega), List.getElem?_map, hj]
    rfl

def seenS : ByteArray := ⟨#[115, 101, 101, 110]⟩
def delS : ByteArray := ⟨#[100, 101, 108, 101, 116, 101, 100]⟩
def flagsL (f : Int) : List ByteArray := (if f % 2 = 1 then [seenS] else []) ++ (if 2 ≤ f then [delS] else [])
def flagsT (f : Int) : ByteArray := (⟨#[40]⟩ ++ joinM (flagsL f) ⟨#[32]⟩) ++ ⟨#[41]⟩
theorem l00Join_own {base : Nat} {v : Value} (xs : List ByteArray) (sep : ByteArray) (w : World) (hv : w.ownsRow base 9 1 v xs.length (xs.map Value.string)) (hl : xs.length ≤ 1000) (hs : (xs.all fun s => decide (s.size ≤ 1000)) = true ∧ sep.size ≤ 1000) :
    Calls Try.prog 183 #[v, .string sep] w fun e w' => e = .returned (.string (joinM xs sep)) ∧ Below w.heap.size w w' := by
  obtain ⟨A, c, rfl, _⟩ := own_form hv
  exact (l00Join_any A c xs sep w (Rd.own hv) hl (fun s h => by have := List.all_eq_true.1 hs.1 s h; simpa using this) hs.2).mono fun e w' ⟨he, hw⟩ => ⟨he, hw ▸ Below.refl _ _⟩
set_option maxRecDepth 100000 in
theorem l10Flags_any (f : Int) (w : World) (h0 : 0 ≤ f) (h3 : f ≤ 3) : Calls Try.prog 105 #[.int .i64 f] w fun e w' => e = .returned (.string (flagsT f)) ∧ Below w.heap.size w w' := by
  obtain ⟨i0, hi, hz0, hz1, hz2⟩ := info_parts infoString
  have HI := Lib.hid (And.intro hi (And.intro hz0 (And.intro hz1 hz2)))
  clear hi hz0 hz1 hz2
  obtain rfl | rfl | rfl | rfl : f = 0 ∨ f = 1 ∨ f = 2 ∨ f = 3 := by omega
  · go_enter Try.func105, Try.ntmps105
    go_wp2_with fail
    refine (l00Join_own (base := w.heap.size) [] ⟨#[32]⟩ _ (own_empty_at (Nat.le_refl _) (heap_alloc_new _ _)) (by simp) (by decide)).mono ?_
    rintro e w2 ⟨rfl, hb2⟩
    go_wp2
    go_ret
    exact ⟨rfl, ((Below.refl _ _).alloc (Nat.le_refl _) _).trans (hb2.mono (by first | exact Nat.le_refl _ | exact Below.size (by assumption) | (simp; done) | (simp; omega) | omega))⟩
  · have HO0 : Hid (((w.alloc (.cells #[] 9)).alloc (.cells #[.string seenS] 9)).ownsRow w.heap.size 9 1 (.slice (some ⟨w.heap.size, 0, none⟩) 0 0) 0 []) := (own_empty_at (Nat.le_refl _) (heap_alloc_new _ _)).alloc _
    go_enter Try.func105, Try.ntmps105
    go_wp2_with (at_builtin; refine wpList_append_own _ rfl (.tmp 8) (.tmp 9) _ rfl w.heap.size 9 i0 (.string ⟨#[]⟩) 1 16 Try.underlying29 HI.out.1 HI.out.2.1 HI.out.2.2.1 HI.out.2.2.2 rfl (by decide) (.slice (some ⟨w.heap.size, 0, none⟩) 0 0) 0 _ rfl HO0.out ⟨w.heap.size + 1, 0, none⟩ 1 1 [.string seenS] rfl rfl ?c1 ?c2 ?c3 ?c4 ?c5 ?_)
    case c1 =>
      intro j u hj
      cases j with
      | zero => simp at hj; subst hj; simp [Addr.add, seenS, delS]
      | succ j => simp at hj
    case c2 => simp [Value.oneCell']
    case c3 => simp only [maxLen]; omega
    case c4 => omega
    case c5 => exact (by first | exact Nat.le_refl _ | exact Below.size (by assumption) | (simp; done) | (simp; omega) | omega)
    intro v1 w1 ho1 hg1 _
    have hb1 : Below w.heap.size w w1 := (((Below.refl _ _).alloc (Nat.le_refl _) _).alloc (by simp) _).grown hg1 (by first | exact Nat.le_refl _ | exact Below.size (by assumption) | (simp; done) | (simp; omega) | omega) (fun k hk => (HO0.out.lt k hk).1)
    have HO1 := Lib.hid ho1
    have HB1 := Lib.hid hb1
    clear ho1 hg1 hb1
    go_wp2_with fail
    refine (l00Join_own (base := w.heap.size) [seenS] ⟨#[32]⟩ _ HO1.out (by simp) (by decide)).mono ?_
    rintro e w2 ⟨rfl, hb2⟩
    go_wp2
    go_ret
    exact ⟨rfl, below_after HB1.out hb2⟩
  · have HO0 : Hid (((w.alloc (.cells #[] 9)).alloc (.cells #[.string delS] 9)).ownsRow w.heap.size 9 1 (.slice (some ⟨w.heap.size, 0, none⟩) 0 0) 0 []) := (own_empty_at (Nat.le_refl _) (heap_alloc_new _ _)).alloc _
    go_enter Try.func105, Try.ntmps105
    go_wp2_with (at_builtin; refine wpList_append_own _ rfl (.tmp 14) (.tmp 15) _ rfl w.heap.size 9 i0 (.string ⟨#[]⟩) 1 16 Try.underlying29 HI.out.1 HI.out.2.1 HI.out.2.2.1 HI.out.2.2.2 rfl (by decide) (.slice (some ⟨w.heap.size, 0, none⟩) 0 0) 0 _ rfl HO0.out ⟨w.heap.size + 1, 0, none⟩ 1 1 [.string delS] rfl rfl ?c1 ?c2 ?c3 ?c4 ?c5 ?_)
    case c1 =>
      intro j u hj
      cases j with
      | zero => simp at hj; subst hj; simp [Addr.add, seenS, delS]
      | succ j => simp at hj
    case c2 => simp [Value.oneCell']
    case c3 => simp only [maxLen]; omega
    case c4 => omega
    case c5 => exact (by first | exact Nat.le_refl _ | exact Below.size (by assumption) | (simp; done) | (simp; omega) | omega)
    intro v1 w1 ho1 hg1 _
    have hb1 : Below w.heap.size w w1 := (((Below.refl _ _).alloc (Nat.le_refl _) _).alloc (by simp) _).grown hg1 (by first | exact Nat.le_refl _ | exact Below.size (by assumption) | (simp; done) | (simp; omega) | omega) (fun k hk => (HO0.out.lt k hk).1)
    have HO1 := Lib.hid ho1
    have HB1 := Lib.hid hb1
    clear ho1 hg1 hb1
    go_wp2_with fail
    refine (l00Join_own (base := w.heap.size) [delS] ⟨#[32]⟩ _ HO1.out (by simp) (by decide)).mono ?_
    rintro e w2 ⟨rfl, hb2⟩
    go_wp2
    go_ret
    exact ⟨rfl, below_after HB1.out hb2⟩
  · have HO0 : Hid (((w.alloc (.cells #[] 9)).alloc (.cells #[.string seenS] 9)).ownsRow w.heap.size 9 1 (.slice (some ⟨w.heap.size, 0, none⟩) 0 0) 0 []) := (own_empty_at (Nat.le_refl _) (heap_alloc_new _ _)).alloc _
    go_enter Try.func105, Try.ntmps105
    go_wp2_with (at_builtin; refine wpList_append_own _ rfl (.tmp 8) (.tmp 9) _ rfl w.heap.size 9 i0 (.string ⟨#[]⟩) 1 16 Try.underlying29 HI.out.1 HI.out.2.1 HI.out.2.2.1 HI.out.2.2.2 rfl (by decide) (.slice (some ⟨w.heap.size, 0, none⟩) 0 0) 0 _ rfl HO0.out ⟨w.heap.size + 1, 0, none⟩ 1 1 [.string seenS] rfl rfl ?c1 ?c2 ?c3 ?c4 ?c5 ?_)
    case c1 =>
      intro j u hj
      cases j with
      | zero => simp at hj; subst hj; simp [Addr.add, seenS, delS]
      | succ j => simp at hj
    case c2 => simp [Value.oneCell']
    case c3 => simp only [maxLen]; omega
    case c4 => omega
    case c5 => exact (by first | exact Nat.le_refl _ | exact Below.size (by assumption) | (simp; done) | (simp; omega) | omega)
    intro v1 w1 ho1 hg1 _
    have hb1 : Below w.heap.size w w1 := (((Below.refl _ _).alloc (Nat.le_refl _) _).alloc (by simp) _).grown hg1 (by first | exact Nat.le_refl _ | exact Below.size (by assumption) | (simp; done) | (simp; omega) | omega) (fun k hk => (HO0.out.lt k hk).1)
    have HO1 := Lib.hid (ho1.alloc (.cells #[.string delS] 9))
    have HB1 := Lib.hid hb1
    have hz1 := hb1.size
    clear ho1 hg1 hb1
    go_wp2_with (at_builtin; refine wpList_append_own _ rfl (.tmp 14) (.tmp 15) _ rfl w.heap.size 9 i0 (.string ⟨#[]⟩) 1 16 Try.underlying29 HI.out.1 HI.out.2.1 HI.out.2.2.1 HI.out.2.2.2 rfl (by decide) v1 (0 + 1) _ rfl HO1.out ⟨w1.heap.size, 0, none⟩ 1 1 [.string delS] rfl rfl ?c1 ?c2 ?c3 ?c4 ?c5 ?_)
    case c1 =>
      intro j u hj
      cases j with
      | zero => simp at hj; subst hj; simp [Addr.add, seenS, delS]
      | succ j => simp at hj
    case c2 => simp [Value.oneCell']
    case c3 => simp only [maxLen]; omega
    case c4 => omega
    case c5 => exact (by first | exact Nat.le_refl _ | exact Below.size (by assumption) | (simp; done) | (simp; omega) | omega)
    intro v3 w3 ho3 hg3 _
    have hb3 : Below w.heap.size w w3 := (HB1.out.alloc hz1 _).grown hg3 (by first | exact Nat.le_refl _ | exact Below.size (by assumption) | (simp; done) | (simp; omega) | omega) (fun k hk => (HO1.out.lt k hk).1)
    have HO3 := Lib.hid ho3
    have HB3 := Lib.hid hb3
    clear ho3 hg3 hb3
    go_wp2_with fail
    refine (l00Join_own (base := w.heap.size) [seenS, delS] ⟨#[32]⟩ _ HO3.out (by simp) (by decide)).mono ?_
    rintro e w2 ⟨rfl, hb2⟩
    go_wp2
    go_ret
    exact ⟨rfl, below_after HB3.out hb2⟩
set_option maxRecDepth 100000 in
theorem flagsText_any (f : Int) (w : World) (h0 : 0 ≤ f) (h3 : f ≤ 3) : Calls Try.prog 107 #[.int .i64 f] w fun e w' => e = .returned (.string (flagsT f)) ∧ Below w.heap.size w w' := by
  obtain ⟨i0, hi, hz0, hz1, hz2⟩ := info_parts infoString
  have HI := Lib.hid (And.intro hi (And.intro hz0 (And.intro hz1 hz2)))
  clear hi hz0 hz1 hz2
  obtain rfl | rfl | rfl | rfl : f = 0 ∨ f = 1 ∨ f = 2 ∨ f = 3 := by omega
  · go_enter Try.func107, Try.ntmps107
    go_wp2_with fail
    refine (strJoin_any (base := w.heap.size) [] ⟨#[32]⟩ _ (own_empty_at (Nat.le_refl _) (heap_alloc_new _ _)) (by simp) (by decide)).mono ?_
    rintro e w2 ⟨rfl, hb2⟩
    go_wp2
    go_ret
    exact ⟨rfl, ((Below.refl _ _).alloc (Nat.le_refl _) _).trans (hb2.mono (by first | exact Nat.le_refl _ | exact Below.size (by assumption) | (simp; done) | (simp; omega) | omega))⟩
  · have HO0 : Hid (((w.alloc (.cells #[] 9)).alloc (.cells #[.string seenS] 9)).ownsRow w.heap.size 9 1 (.slice (some ⟨w.heap.size, 0, none⟩) 0 0) 0 []) := (own_empty_at (Nat.le_refl _) (heap_alloc_new _ _)).alloc _
    go_enter Try.func107, Try.ntmps107
    go_wp2_with (at_builtin; refine wpList_append_own _ rfl (.tmp 8) (.tmp 9) _ rfl w.heap.size 9 i0 (.string ⟨#[]⟩) 1 16 Try.underlying29 HI.out.1 HI.out.2.1 HI.out.2.2.1 HI.out.2.2.2 rfl (by decide) (.slice (some ⟨w.heap.size, 0, none⟩) 0 0) 0 _ rfl HO0.out ⟨w.heap.size + 1, 0, none⟩ 1 1 [.string seenS] rfl rfl ?c1 ?c2 ?c3 ?c4 ?c5 ?_)
    case c1 =>
      intro j u hj
      cases j with
      | zero => simp at hj; subst hj; simp [Addr.add, seenS, delS]
      | succ j => simp at hj
    case c2 => simp [Value.oneCell']
    case c3 => simp only [maxLen]; omega
    case c4 => omega
    case c5 => exact (by first | exact Nat.le_refl _ | exact Below.size (by assumption) | (simp; done) | (simp; omega) | omega)
    intro v1 w1 ho1 hg1 _
    have hb1 : Below w.heap.size w w1 := (((Below.refl _ _).alloc (Nat.le_refl _) _).alloc (by simp) _).grown hg1 (by first | exact Nat.le_refl _ | exact Below.size (by assumption) | (simp; done) | (simp; omega) | omega) (fun k hk => (HO0.out.lt k hk).1)
    have HO1 := Lib.hid ho1
    have HB1 := Lib.hid hb1
    clear ho1 hg1 hb1
    go_wp2_with fail
    refine (strJoin_any (base := w.heap.size) [seenS] ⟨#[32]⟩ _ HO1.out (by simp) (by decide)).mono ?_
    rintro e w2 ⟨rfl, hb2⟩
    go_wp2
    go_ret
    exact ⟨rfl, below_after HB1.out hb2⟩
  · have HO0 : Hid (((w.alloc (.cells #[] 9)).alloc (.cells #[.string delS] 9)).ownsRow w.heap.size 9 1 (.slice (some ⟨w.heap.size, 0, none⟩) 0 0) 0 []) := (own_empty_at (Nat.le_refl _) (heap_alloc_new _ _)).alloc _
    go_enter Try.func107, Try.ntmps107
    go_wp2_with (at_builtin; refine wpList_append_own _ rfl (.tmp 14) (.tmp 15) _ rfl w.heap.size 9 i0 (.string ⟨#[]⟩) 1 16 Try.underlying29 HI.out.1 HI.out.2.1 HI.out.2.2.1 HI.out.2.2.2 rfl (by decide) (.slice (some ⟨w.heap.size, 0, none⟩) 0 0) 0 _ rfl HO0.out ⟨w.heap.size + 1, 0, none⟩ 1 1 [.string delS] rfl rfl ?c1 ?c2 ?c3 ?c4 ?c5 ?_)
    case c1 =>
      intro j u hj
      cases j with
      | zero => simp at hj; subst hj; simp [Addr.add, seenS, delS]
      | succ j => simp at hj
    case c2 => simp [Value.oneCell']
    case c3 => simp only [maxLen]; omega
    case c4 => omega
    case c5 => exact (by first | exact Nat.le_refl _ | exact Below.size (by assumption) | (simp; done) | (simp; omega) | omega)
    intro v1 w1 ho1 hg1 _
    have hb1 : Below w.heap.size w w1 := (((Below.refl _ _).alloc (Nat.le_refl _) _).alloc (by simp) _).grown hg1 (by first | exact Nat.le_refl _ | exact Below.size (by assumption) | (simp; done) | (simp; omega) | omega) (fun k hk => (HO0.out.lt k hk).1)
    have HO1 := Lib.hid ho1
    have HB1 := Lib.hid hb1
    clear ho1 hg1 hb1
    go_wp2_with fail
    refine (strJoin_any (base := w.heap.size) [delS] ⟨#[32]⟩ _ HO1.out (by simp) (by decide)).mono ?_
    rintro e w2 ⟨rfl, hb2⟩
    go_wp2
    go_ret
    exact ⟨rfl, below_after HB1.out hb2⟩
  · have HO0 : Hid (((w.alloc (.cells #[] 9)).alloc (.cells #[.string seenS] 9)).ownsRow w.heap.size 9 1 (.slice (some ⟨w.heap.size, 0, none⟩) 0 0) 0 []) := (own_empty_at (Nat.le_refl _) (heap_alloc_new _ _)).alloc _
    go_enter Try.func107, Try.ntmps107
    go_wp2_with (at_builtin; refine wpList_append_own _ rfl (.tmp 8) (.tmp 9) _ rfl w.heap.size 9 i0 (.string ⟨#[]⟩) 1 16 Try.underlying29 HI.out.1 HI.out.2.1 HI.out.2.2.1 HI.out.2.2.2 rfl (by decide) (.slice (some ⟨w.heap.size, 0, none⟩) 0 0) 0 _ rfl HO0.out ⟨w.heap.size + 1, 0, none⟩ 1 1 [.string seenS] rfl rfl ?c1 ?c2 ?c3 ?c4 ?c5 ?_)
    case c1 =>
      intro j u hj
      cases j with
      | zero => simp at hj; subst hj; simp [Addr.add, seenS, delS]
      | succ j => simp at hj
    case c2 => simp [Value.oneCell']
    case c3 => simp only [maxLen]; omega
    case c4 => omega
    case c5 => exact (by first | exact Nat.le_refl _ | exact Below.size (by assumption) | (simp; done) | (simp; omega) | omega)
    intro v1 w1 ho1 hg1 _
    have hb1 : Below w.heap.size w w1 := (((Below.refl _ _).alloc (Nat.le_refl _) _).alloc (by simp) _).grown hg1 (by first | exact Nat.le_refl _ | exact Below.size (by assumption) | (simp; done) | (simp; omega) | omega) (fun k hk => (HO0.out.lt k hk).1)
    have HO1 := Lib.hid (ho1.alloc (.cells #[.string delS] 9))
    have HB1 := Lib.hid hb1
    have hz1 := hb1.size
    clear ho1 hg1 hb1
    go_wp2_with (at_builtin; refine wpList_append_own _ rfl (.tmp 14) (.tmp 15) _ rfl w.heap.size 9 i0 (.string ⟨#[]⟩) 1 16 Try.underlying29 HI.out.1 HI.out.2.1 HI.out.2.2.1 HI.out.2.2.2 rfl (by decide) v1 (0 + 1) _ rfl HO1.out ⟨w1.heap.size, 0, none⟩ 1 1 [.string delS] rfl rfl ?c1 ?c2 ?c3 ?c4 ?c5 ?_)
    case c1 =>
      intro j u hj
      cases j with
      | zero => simp at hj; subst hj; simp [Addr.add, seenS, delS]
      | succ j => simp at hj
    case c2 => simp [Value.oneCell']
    case c3 => simp only [maxLen]; omega
    case c4 => omega
    case c5 => exact (by first | exact Nat.le_refl _ | exact Below.size (by assumption) | (simp; done) | (simp; omega) | omega)
    intro v3 w3 ho3 hg3 _
    have hb3 : Below w.heap.size w w3 := (HB1.out.alloc hz1 _).grown hg3 (by first | exact Nat.le_refl _ | exact Below.size (by assumption) | (simp; done) | (simp; omega) | omega) (fun k hk => (HO1.out.lt k hk).1)
    have HO3 := Lib.hid ho3
    have HB3 := Lib.hid hb3
    clear ho3 hg3 hb3
    go_wp2_with fail
    refine (strJoin_any (base := w.heap.size) [seenS, delS] ⟨#[32]⟩ _ HO3.out (by simp) (by decide)).mono ?_
    rintro e w2 ⟨rfl, hb2⟩
    go_wp2
    go_ret
    exact ⟨rfl, below_after HB3.out hb2⟩

end Go.Proofs.Ytlfnpnkpjdmonaa
