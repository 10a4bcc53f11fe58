import Derived.Test.YtlfnpnkpjdmonaaInsert
set_option linter.unusedVariables false
set_option linter.unusedSimpArgs false
namespace Go.Proofs.Ytlfnpnkpjdmonaa
open Go.RowKit

/-! ### Insert, whole; put of a pair -/
theorem insert_any (base i vb : Nat) (v : Value) (l : List Pr) (x : Pr) (w : World) (ho : w.ownsRow base 82 2 v l.length (flat encP l)) (hv : w.heap[vb]? = some (.cells #[.string x.1, .string x.2] 82 (0, 0))) (hvg : ∀ g, v.ownBlock = some g → vb ≠ g) (hi : i ≤ l.length) (hl : l.length ≤ 1048576) (hb : base ≤ w.heap.size) :
    Calls Try.prog 205 #[v, .int .i64 i, .slice (some ⟨vb, 0, none⟩) 1 1] w (InsPost base v (insP l i x) w) := by
  by_cases he : i = l.length
  · subst he
    have e : insP l l.length x = l ++ [x] := by simp [insP]
    rw [e]
    exact insert_end base v l.length vb l x w rfl ho hv hl hb
  · have hi' : i < l.length := by omega
    obtain ⟨n, hn⟩ : ∃ n, n = l.length := ⟨_, rfl⟩
    rcases ho.2 with ⟨h', h0⟩ | ⟨g, cap, cur, h', _⟩
    · omega
    · subst h'
      rw [← hn] at ho ⊢
      by_cases hr : n + 1 ≤ cap
      · exact insert_shift base g cap n i vb l x w hn ho hv (hvg g rfl) (by omega) hr (by omega) hb
      · exact insert_grow base g cap n i vb l x w hn ho hv (by omega) (by omega) (by omega) hb
theorem set_val (l : List Pr) (i : Nat) (k v : ByteArray) (hi : i < l.length) (hk : l[i].1 = k) : (flat encP l).set (i * 2 + 1) (.string v) = flat encP (l.take i ++ (k, v) :: l.drop (i + 1)) := by
  have e : l = l.take i ++ l[i] :: l.drop (i + 1) := by simp
  have h1 : (flat encP (l.take i)).length = i * 2 := by rw [flat_length encP_len, List.length_take, Nat.min_eq_left (by omega)]
  rw [show flat encP l = flat encP (l.take i ++ l[i] :: l.drop (i + 1)) from by rw [← e], flat_append, flat_append, flat_cons, flat_cons, List.set_append, if_neg (by omega), h1, show i * 2 + 1 - i * 2 = 1 from by omega]
  simp [encP, hk]
theorem putP_len (l : List Pr) (k v : ByteArray) : (putP l k v).length = if hitP l k then l.length else l.length + 1 := by
  have h1 := atP_le l k
  unfold putP
  cases hh : hitP l k with
  | false => simp; omega
  | true =>
    have h2 := hitP_eq l k
    rw [hh] at h2
    split at h2
    · simp; omega
    · cases h2
set_option maxRecDepth 100000 in
set_option maxHeartbeats 1000000 in
theorem putPair_any (base : Nat) (v : Value) (l : List Pr) (k x : ByteArray) (w : World) (ho : w.ownsRow base 82 2 v l.length (flat encP l)) (hr : Rise l) (hl : l.length ≤ 1048575) (hb : base ≤ w.heap.size) :
    Calls Try.prog 137 #[v, .string k, .string x] w (InsPost base v (putP l k x) w) := by
  obtain ⟨I, hI⟩ : ∃ I, I = atP l k := ⟨_, rfl⟩
  have hIl : I ≤ l.length := by rw [hI]; exact atP_le l k
  cases hh : hitP l k with
  | true =>
    obtain ⟨hlt, hkey⟩ : ∃ h : I < l.length, l[I].1 = k := by
      have h2 := hitP_eq l k
      rw [hh, ← hI] at h2
      split at h2
      · exact ⟨by assumption, of_decide_eq_true h2.symm⟩
      · cases h2
    rcases ho.2 with ⟨h', h0⟩ | ⟨g, cap, cur, h', _⟩
    · omega
    subst h'
    have HC := Lib.hid (pairAt_any (some ⟨g, 0, none⟩) cap l k w (Rd.own ho) (by omega) hr)
    rw [← hI, hh] at HC
    have HO := Lib.hid ho
    have HE : Hid ((flat encP l).set (I * 2 + 1) (.string x) = flat encP (putP l k x)) := by
      show _ = _
      rw [set_val l I k x hlt hkey]
      unfold putP
      rw [hh, ← hI]
      rfl
    have HL : Hid ((putP l k x).length = l.length) := by
      show _ = _
      rw [putP_len, hh]
      rfl
    clear ho hr hkey hI hh
    go_enter Try.func137, Try.ntmps137
    go_wp2_with fail
    refine HC.out.mono ?_
    rintro e w1 ⟨rfl, hb1⟩
    have ho1 := own_below HO.out hb1
    have hce : ∃ u, w1.cell? ⟨g, I * 2 + 1, none⟩ = some u := by
      rw [ho1.cellAt (I * 2 + 1) (by omega)]
      exact ⟨_, List.getElem?_eq_getElem (by rw [flat_length encP_len]; omega)⟩
    obtain ⟨u, hcu⟩ := hce
    have hfr := ho1.frozenAt (I * 2 + 1)
    have HB := Lib.hid (grown_below hb1 (some g))
    have HO1 := Lib.hid ho1
    clear hb1 ho1
    go_wp2
    go_ret
    obtain ⟨h1, h2⟩ := HO1.out.stored (I * 2 + 1) (.string x)
    rw [HE.out] at h1
    exact ⟨_, rfl, by rw [HL.out]; exact h1, grown_after HB.out h2⟩
  | false =>
    obtain ⟨A, c, rfl, hnc⟩ := own_form ho
    have HC := Lib.hid (pairAt_any A c l k w (Rd.own ho) (by omega) hr)
    rw [← hI, hh] at HC
    have HO := Lib.hid ho
    have HE : Hid (insP l I (k, x) = putP l k x) := by
      show _ = _
      unfold putP insP
      rw [hh, ← hI]
      rfl
    clear ho hr hI hh
    go_enter Try.func137, Try.ntmps137
    go_wp2_with fail
    refine HC.out.mono ?_
    rintro e w1 ⟨rfl, hb1⟩
    have ho1 := own_below HO.out hb1
    have hbs := hb1.size
    have HB := Lib.hid (grown_below hb1 (Value.slice A l.length c).ownBlock)
    have HO1 := Lib.hid ho1
    clear hb1 ho1
    go_wp2_with fail
    refine (insert_any base I w1.heap.size (.slice A l.length c) l (k, x) _ (HO1.out.alloc _) (heap_alloc_new _ _) (fun g hg => by have := (HO1.out.lt g hg).2; omega) hIl (by omega) (by simp; omega)).mono ?_
    rintro e w2 ⟨v2, rfl, ho2, hg2⟩
    rw [HE.out] at ho2
    have HG : Hid (w.grownBy w2 (Value.slice A l.length c).ownBlock) := by
      have h1 : w1.grownBy (w1.alloc (.cells #[.string k, .string x] 82)) (Value.slice A l.length c).ownBlock := ⟨rfl, rfl, rfl, by simp, fun k hk _ => Lib.alloc_old w1 _ k hk⟩
      exact grown_after (grown_after HB.out h1) hg2
    have HO2 := Lib.hid ho2
    clear ho2 hg2
    go_wp2_with fail
    go_ret
    exact ⟨_, rfl, HO2.out, HG.out⟩
end Go.Proofs.Ytlfnpnkpjdmonaa
